/- Slices of bools that came in. Conditions: none. -/
import Derived.Test.YtnmphchlephpbaaOpen
namespace Go.Proofs.Ytnmphchlephpbaa
open Go.ChangeShapes Go.WideShapes Go.ChangeAt Go.RowKit
section
variable {H : Type} {enc : TypeId × Value → H} {P : Program} {w : World} {base : Nat} {spare : Nat → Bool} {held : Bool}
def boolEnc (b : Bool) : List Value := [.bool b]
theorem boolEnc_len (b : Bool) : (boolEnc b).length = 1 := rfl
theorem open_slc_bools {t e : TypeId} {v : Value} {d : DataW H} {ps : List MemPlace} (ht : P.underlying t = some (.slice e)) (he : P.underlying e = some .bool) (hc : P.cellsOf e = 1)
    (hsl : ∃ a len cap, v = .slice a len cap) (h : DataW.Trod enc P w base spare held t v d ps) : ∃ L : List Bool, Slc boolEnc 1 w v L := by
  obtain ⟨L, hL, _⟩ := open_slc (ρ := boolEnc) (Wf := fun _ => True) ht hc (by omega) (fun n cs y hy => by
    obtain ⟨x, rfl, _⟩ := DataW.trod_bool he hy
    exact ⟨x, rfl, trivial⟩) hsl h
  exact ⟨L, hL⟩
end
theorem Slc.loadB {w : World} {a : Option Addr} {n cap : Nat} {L : List Bool} (h : Slc boolEnc 1 w (.slice a n cap) L) (i : Nat) (hi : i < L.length) :
    ∃ g off, a = some ⟨g, off, none⟩ ∧ w.cell? ⟨g, off + i, none⟩ = some (.bool L[i]) := by
  rcases h with ⟨_, _, hv, _, h0⟩ | ⟨g, off, cap', hv, _, _, hc⟩
  · rw [h0] at hi; simp at hi
  · simp only [Value.slice.injEq] at hv
    refine ⟨g, off, hv.1, ?_⟩
    have := hc i hi 0 (.bool L[i]) rfl
    simpa using this
end Go.Proofs.Ytnmphchlephpbaa
