/- How arguments of a law are opened: slices of integers, of strings, of records, as they are read. Conditions: none. -/
import Derived.Test.YtgpdbifgbabnnaaOwn
import Derived.ProofKit
import Derived.OpenShut
import Derived.Deep.Slices
namespace Go.Proofs.Ytgpdbifgbabnnaa
open Go.ChangeShapes Go.WideShapes Go.ChangeAt Go.RowKit

theorem add_eq (a : Addr) (h : a.spot = none) (i : Nat) : a.add i = ⟨a.block, a.off + i, none⟩ := by
  obtain ⟨b, o, s⟩ := a
  subst h
  unfold Addr.add
  split <;> simp_all

section
variable {H : Type} {enc : TypeId × Value → H} {P : Program} {w : World} {base : Nat} {spare : Nat → Bool} {held : Bool}

/-- A slice that came in, its elements read by 'hel': each element's cells are those of some x, of which Wf holds. -/
theorem open_slc {α : Type} {ρ : α → List Value} {Wf : α → Prop} {m : Nat} {t e : TypeId} {v : Value} {d : DataW H} {ps : List MemPlace} (ht : P.underlying t = some (.slice e)) (hc : P.cellsOf e = m) (hm : 0 < m)
    (hel : ∀ n cs y, DataW.trod enc P w base spare held n e cs = some y → ∃ x, cs = ρ x ∧ Wf x)
    (hsl : ∃ a len cap, v = .slice a len cap) (h : DataW.Trod enc P w base spare held t v d ps) :
    ∃ L : List α, Slc ρ m w v L ∧ ∀ x ∈ L, Wf x := by
  obtain ⟨fuel, hf⟩ := h
  rcases Deep.open_slice ht hf with ⟨hcs, hx⟩ | ⟨a, len, cap, mm, n, D, Pl, hcs, hb, hl, hmx, hmm, hx, hi⟩
  · refine ⟨[], .inl ⟨none, 0, ?_, by simp, rfl⟩, by simp⟩
    obtain ⟨a, l, c, rfl⟩ := hsl; simpa [Value.cells] using hcs
  · have hv : v = .slice (some a) len cap := by obtain ⟨a, l, c, rfl⟩ := hsl; simpa [Value.cells] using hcs
    subst hv
    have hle : len ≤ mm := by rw [hmm]; split <;> omega
    have key : ∀ i, i < len → ∃ x, Wf x ∧ w.cells? base (a.add (i * m)) m = some (ρ x) := by
      intro i hil
      obtain ⟨cs', h1, h2⟩ := hi i (by omega)
      obtain ⟨x, rfl, hw⟩ := hel _ _ _ h2
      rw [hc] at h1
      exact ⟨x, hw, h1⟩
    by_cases h0 : len = 0
    · subst h0; exact ⟨[], .inl ⟨some a, cap, rfl, hmx, rfl⟩, by simp⟩
    have hspot : a.spot = none := by
      obtain ⟨x, _, h1⟩ := key 0 (by omega)
      obtain ⟨_, hlen, hcell⟩ := World.cells?_some h1
      have h2 := hcell 0 (by omega)
      simp only [Nat.zero_mul] at h2
      have e1 : (a.add 0).add 0 = a := by simp [Addr.add]
      rw [e1] at h2
      have h3 : 0 < (ρ x).length := by omega
      rw [List.getElem?_eq_getElem h3] at h2
      exact World.cell?_spot h2
    haveI : Inhabited α := ⟨(key 0 (by omega)).choose⟩
    obtain ⟨f, hf'⟩ := Deep.choose_lt key
    refine ⟨(List.range len).map f, .inr ⟨a.block, a.off, cap, ?_, by simpa using hl, hmx, ?_⟩, ?_⟩
    · have : a = ⟨a.block, a.off, none⟩ := by obtain ⟨b, o, s⟩ := a; simp_all
      simp [← this]
    · intro i hil j u hu
      simp only [List.length_map, List.length_range] at hil
      simp only [List.getElem_map, List.getElem_range] at hu
      obtain ⟨_, h1⟩ := hf' i hil
      obtain ⟨_, hlen, hcell⟩ := World.cells?_some h1
      have hj : j < m := by rw [← hlen]; exact (List.getElem?_eq_some_iff.1 hu).1
      have h2 := hcell j hj
      rw [hu, Deep.add_add, add_eq a hspot, ← Nat.add_assoc] at h2
      exact h2
    · intro x hx
      rw [List.mem_map] at hx
      obtain ⟨i, hi', rfl⟩ := hx
      exact (hf' i (List.mem_range.1 hi')).1

/-- A slice of integers that came in. -/
def intEnc (k : IntKind) (n : Int) : List Value := [.int k n]
theorem intEnc_len (k : IntKind) (n : Int) : (intEnc k n).length = 1 := rfl
theorem intEnc_one (k : IntKind) (n : Int) : ∀ u ∈ intEnc k n, u.oneCell' = true := by simp [intEnc, Value.oneCell']
theorem open_slc_ints {k : IntKind} {t e : TypeId} {v : Value} {d : DataW H} {ps : List MemPlace} (ht : P.underlying t = some (.slice e)) (he : P.underlying e = some (.int k)) (hc : P.cellsOf e = 1)
    (hsl : ∃ a len cap, v = .slice a len cap) (h : DataW.Trod enc P w base spare held t v d ps) : ∃ L : List Int, Slc (intEnc k) 1 w v L ∧ ∀ x ∈ L, (Lit.int k x).wf = true :=
  open_slc (ρ := intEnc k) ht hc (by omega) (fun n cs y hy => by
    obtain ⟨x, rfl, _, hw⟩ := DataW.trod_int he hy
    exact ⟨x, rfl, hw⟩) hsl h

end
/-- A number of a row of numbers, read. -/
theorem Slc.load {kd : IntKind} {w : World} {a : Option Addr} {n cap : Nat} {L : List Int} (h : Slc (intEnc kd) 1 w (.slice a n cap) L) (i : Nat) (hi : i < L.length) :
    ∃ g off, a = some ⟨g, off, none⟩ ∧ w.cell? ⟨g, off + i, none⟩ = some (.int kd L[i]) := by
  rcases h with ⟨_, _, hv, _, h0⟩ | ⟨g, off, cap', hv, _, _, hc⟩
  · rw [h0] at hi; simp at hi
  · simp only [Value.slice.injEq] at hv
    refine ⟨g, off, hv.1, ?_⟩
    have := hc i hi 0 (.int kd L[i]) rfl
    simpa using this

end Go.Proofs.Ytgpdbifgbabnnaa
