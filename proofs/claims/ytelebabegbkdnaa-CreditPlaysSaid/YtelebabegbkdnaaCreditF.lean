/- The round as one object apart from given blocks ('RndX'), its contracts in that form, and the law's head. Conditions: at most a million subscriptions; credits fit. -/
import Derived.Test.YtelebabegbkdnaaCreditC
import Derived.Test.YtelebabegbkdnaaCreditE
namespace Go.Proofs.Ytelebabegbkdnaa
open Go.RowKit

/-- The round at r; none of its blocks is in X. -/
def RndX (X : Nat → Prop) (w : World) (r : Nat) (L : List Sub) (nx : Nat) : Prop := ∃ v, Rnd w r v L nx ∧ ∀ k, RndS r v k → ¬ X k
theorem RndX.upd {X T : Nat → Prop} {w w' : World} {r : Nat} {L : List Sub} {nx : Nat} (h : RndX X w r L nx) (hb : Upd T w w') (hT : ∀ k, T k → k < w.heap.size → X k) : RndX X w' r L nx := by
  obtain ⟨v, h1, h2⟩ := h
  refine ⟨v, ⟨h1.1.keep (hb.block r h1.1.lt (fun ht => h2 r (.inl rfl) (hT r ht h1.1.lt))), h1.2.1.keep (fun k hk hl => hb.block k hl (fun ht => h2 k (.inr hk) (hT k ht hl))), h1.2.2⟩, h2⟩
theorem RndX.pure {X : Nat → Prop} {w w' : World} {r : Nat} {L : List Sub} {nx : Nat} (h : RndX X w r L nx) (hb : Below w.heap.size w w') : RndX X w' r L nx := by
  obtain ⟨v, h1, h2⟩ := h; exact ⟨v, h1.pure hb, h2⟩
theorem RndX.more {X X' : Nat → Prop} {w : World} {r : Nat} {L : List Sub} {nx : Nat} (h : RndX X w r L nx) (hX : ∀ k, X' k → k < w.heap.size → X k) : RndX X' w r L nx := by
  obtain ⟨v, h1, h2⟩ := h
  refine ⟨v, h1, fun k hk hx => h2 k hk (hX k hx ?_)⟩
  rcases hk with rfl | hk
  · exact h1.1.lt
  · exact h1.2.1.lt hk
theorem RndX.step {X X' T : Nat → Prop} {w w' : World} {r : Nat} {L : List Sub} {nx : Nat} (h : RndX X w r L nx) (hb : Upd T w w') (hT : ∀ k, T k → k < w.heap.size → X k) (hX : ∀ k, X' k → k < w.heap.size → X k) : RndX X' w' r L nx := by
  obtain ⟨v, h1, h2⟩ := h
  refine ⟨v, ⟨h1.1.keep (hb.block r h1.1.lt (fun ht => h2 r (.inl rfl) (hT r ht h1.1.lt))), h1.2.1.keep (fun k hk hl => hb.block k hl (fun ht => h2 k (.inr hk) (hT k ht hl))), h1.2.2⟩, fun k hk hx => h2 k hk (hX k hx ?_)⟩
  rcases hk with rfl | hk
  · exact h1.1.lt
  · exact h1.2.1.lt hk
/-- What lies in X is as it was. -/
abbrev Kept (X : Nat → Prop) (w w' : World) : Prop := Upd (fun k => ¬ X k) w w'

/-- The place that a turn serves. -/
def turnOf (L : List Sub) (nx : Nat) (may : List ByteArray) : Option (Fin L.length) := (places L.length nx).find? (fun i => serv may L[i])

theorem addX {X : Nat → Prop} {w : World} {r : Nat} {L : List Sub} {nx : Nat} {t : ByteArray} (h : RndX X w r L nx) (hX : ∀ k, X k → k < w.heap.size) (h0 : 0 < t.size) (h1 : t.size ≤ 40) (hn : findS L t = none) (hL : L.length ≤ 1000000) :
    Calls Try.prog 9 #[.pointer (some ⟨r, 0, none⟩), .string t] w fun e w' => e = .returned (.int .i64 0) ∧ RndX X w' r (L ++ [(t, 0)]) nx ∧ Kept X w w' := by
  obtain ⟨v, hv, hs⟩ := h
  refine (add_ok w r v L nx t hv h0 h1 hn hL).mono ?_
  rintro e w' ⟨he, v', hv', hu, hf⟩
  exact ⟨he, ⟨v', hv', fun k hk => (hf k hk).elim (hs k) (fun h hx => by have := hX k hx; omega)⟩, hu.mono (fun k hk _ => hs k hk)⟩

theorem giveX {X : Nat → Prop} {w : World} {r i : Nat} {L : List Sub} {nx : Nat} {t : ByteArray} {n : Int} (h : RndX X w r L nx) (hi : i < L.length) (hn : findS L t = some i)
    (c0 : 0 ≤ L[i].2) (c1 : L[i].2 ≤ 4294967295) (n0 : 0 ≤ n) (n1 : n ≤ 4294967295) :
    Calls Try.prog 10 #[.pointer (some ⟨r, 0, none⟩), .string t, .int .u32 n] w fun e w' => e = .returned (.int .i64 0) ∧ RndX X w' r (L.set i (L[i].1, gave L[i].2 n)) nx ∧ Kept X w w' := by
  obtain ⟨v, hv, hs⟩ := h
  refine (give_some w r i v L nx t n hv hi hn c0 c1 n0 n1).mono ?_
  rintro e w' ⟨he, hv', hu⟩
  exact ⟨he, ⟨v, hv', hs⟩, hu.mono (fun k hk _ => hs k hk)⟩

theorem creditX {X : Nat → Prop} {w : World} {r i : Nat} {L : List Sub} {nx : Nat} {t : ByteArray} (h : RndX X w r L nx) (hi : i < L.length) (hn : findS L t = some i) :
    Calls Try.prog 20 #[.pointer (some ⟨r, 0, none⟩), .string t] w fun e w' => e = .returned (.tuple #[.int .u32 L[i].2, .int .i64 0]) ∧ Below w.heap.size w w' := by
  obtain ⟨v, hv, hs⟩ := h
  exact credit_some w r i v L nx t hv hi hn

theorem addX_there {X : Nat → Prop} {w : World} {r i : Nat} {L : List Sub} {nx : Nat} {t : ByteArray} (h : RndX X w r L nx) (h0 : 0 < t.size) (h1 : t.size ≤ 40) (hn : findS L t = some i) :
    Calls Try.prog 9 #[.pointer (some ⟨r, 0, none⟩), .string t] w fun e w' => e = .returned (.int .i64 8) ∧ Below w.heap.size w w' := by
  obtain ⟨v, hv, hs⟩ := h
  exact add_there w r i v L nx t hv h0 h1 hn

theorem turnOf_none {L : List Sub} {nx : Nat} {may : List ByteArray} (h : ∀ i : Fin L.length, serv may L[i] = false) : turnOf L nx may = none := by
  unfold turnOf
  rw [List.find?_eq_none]
  intro i _; rw [h i]; simp
theorem turnOf_some {L : List Sub} {nx : Nat} {may : List ByteArray} {ini : List (Fin L.length)} {i : Fin L.length} (h : ini ++ [i] <+: places L.length nx) (h1 : ∀ j ∈ ini, serv may L[j] = false) (h2 : serv may L[i] = true) : turnOf L nx may = some i := by
  unfold turnOf
  obtain ⟨t, ht⟩ := h
  rw [← ht, List.append_assoc, List.find?_append]
  have : List.find? (fun i => serv may L[i]) ini = none := by
    rw [List.find?_eq_none]; intro j hj; rw [h1 j hj]; simp
  rw [this]
  have h2' : serv may L[i.1] = true := h2
  simp [h2']

theorem turnX_some {X : Nat → Prop} {w : World} {r : Nat} {L : List Sub} {nx : Nat} {may : List ByteArray} {mv : Value} {i : Fin L.length} (h : RndX X w r L nx) (hm : Slc strEnc 1 w mv may) (hnx : nx ≤ L.length) (hL : L.length ≤ 1000000)
    (hc : ∀ p ∈ L, 0 ≤ p.2 ∧ p.2 ≤ 4294967295) (ht : turnOf L nx may = some i) :
    Calls Try.prog 11 #[.pointer (some ⟨r, 0, none⟩), mv] w fun e w' => e = .returned (.tuple #[.string L[i].1, .bool true]) ∧
      RndX X w' r (L.set i (L[i].1, spent L[i].2)) (i + 1) ∧ Kept X w w' := by
  obtain ⟨v, hv, hs⟩ := h
  refine (turn_serves w r v mv L nx may hv hm hnx hL hc).mono ?_
  rintro e w' (⟨h1, _⟩ | ⟨ini, j, h1, h2, h3, h4, h5, h6⟩)
  · rw [turnOf_none h1] at ht; cases ht
  · rw [turnOf_some h1 h2 h3] at ht
    cases ht
    exact ⟨h4, ⟨v, h5, hs⟩, h6.mono (fun k hk _ => hs k hk)⟩

theorem turnX_none {X : Nat → Prop} {w : World} {r : Nat} {L : List Sub} {nx : Nat} {may : List ByteArray} {mv : Value} (h : RndX X w r L nx) (hm : Slc strEnc 1 w mv may) (hnx : nx ≤ L.length) (hL : L.length ≤ 1000000)
    (hc : ∀ p ∈ L, 0 ≤ p.2 ∧ p.2 ≤ 4294967295) (ht : turnOf L nx may = none) :
    Calls Try.prog 11 #[.pointer (some ⟨r, 0, none⟩), mv] w fun e w' => e = .returned (.tuple #[.string ⟨#[]⟩, .bool false]) ∧ Below w.heap.size w w' := by
  obtain ⟨v, hv, hs⟩ := h
  refine (turn_serves w r v mv L nx may hv hm hnx hL hc).mono ?_
  rintro e w' (⟨h1, h2, h3⟩ | ⟨ini, j, h1, h2, h3, h4, h5, h6⟩)
  · exact ⟨h2, h3⟩
  · rw [turnOf_some h1 h2 h3] at ht; cases ht

theorem newX (w : World) :
    Calls Try.prog 8 #[] w fun e w' => e = .returned (.pointer (some ⟨w.heap.size, 0, none⟩)) ∧ Below w.heap.size w w' ∧ RndX (fun k => k < w.heap.size) w' w.heap.size [] 0 ∧ w.heap.size < w'.heap.size := by
  refine (new_any w).mono ?_
  rintro e w' ⟨h1, h2, h3⟩
  refine ⟨h1, h2, ⟨_, h3, ?_⟩, h3.1.lt⟩
  rintro k (h | h)
  · omega
  · simp [Value.ownBlock] at h

def sA : ByteArray := ⟨#[97]⟩
def sB : ByteArray := ⟨#[98]⟩
def sC : ByteArray := ⟨#[99]⟩

end Go.Proofs.Ytelebabegbkdnaa
