/- Chapter 10's laws from their arguments as they are read: acts. Conditions: none. -/
import Derived.Test.YtgpdbifgbabnnaaDlC
import Derived.Test.YtgpdbifgbabnnaaOpenS
import Derived.Test.YtgpdbifgbabnnaaDkG
import Derived.ProofKit
import Derived.OpenShut
namespace Go.Proofs.Ytgpdbifgbabnnaa
open Go.RowKit Go.ChangeShapes Go.WideShapes Go.ChangeAt
set_option linter.unusedVariables false
set_option linter.unusedSimpArgs false
theorem field_slice {H : Type} {enc : TypeId × Value → H} {P : Program} {w : World} {base : Nat} {spare : Nat → Bool} {held : Bool} {m : Nat} {t e o : Nat} {cs : List Value} {c : Value} (hi : P.underlying t = some (.slice e)) (h1 : P.cellsOf t = 1) (hc : cs[o]? = some c) (h : ∃ z, DataW.trod enc P w base spare held m t ((cs.drop o).take (P.cellsOf t)) = some z) :
    (∃ a len cap, c = .slice a len cap) ∧ ∃ d ps, DataW.Trod enc P w base spare held t c d ps := by
  obtain ⟨z, h⟩ := h
  rw [h1] at h
  have e1 : (cs.drop o).take 1 = [c] := by
    apply List.ext_getElem?
    intro j
    rw [List.getElem?_take]
    cases j with
    | zero => simp [hc]
    | succ j => simp
  rw [e1] at h
  have hs : ∃ a len cap, c = .slice a len cap := by
    rcases DataW.trod_slice hi h with ⟨hcs, _⟩ | ⟨a, len, cap, _, _, _, _, hcs, _⟩
    · simp only [List.cons.injEq, and_true] at hcs; exact ⟨none, 0, 0, hcs⟩
    · simp only [List.cons.injEq, and_true] at hcs; exact ⟨_, _, _, hcs⟩
  refine ⟨hs, z.1, z.2, m, ?_⟩
  obtain ⟨a, len, cap, rfl⟩ := hs
  exact h


theorem wf_u8 {m : Int} (h : (Lit.int .u8 m).wf = true) : 0 ≤ m ∧ m ≤ 255 := by
  simp [Lit.wf, IntKind.min, IntKind.max, IntKind.signed, IntKind.bits] at h; omega
theorem wf_i64 {m : Int} (h : (Lit.int .i64 m).wf = true) : -9223372036854775808 ≤ m ∧ m ≤ 9223372036854775807 := by
  simp [Lit.wf, IntKind.min, IntKind.max, IntKind.signed, IntKind.bits] at h; omega
set_option maxRecDepth 100000 in
theorem open_act {H : Type} {enc : TypeId × Value → H} {w : World} {base : Nat} {spare : Nat → Bool} {held : Bool} (n : Nat) (cs : List Value) (y : DataW H × List MemPlace)
    (h : DataW.trod enc Try.prog w base spare held n 30 cs = some y) : ∃ x, cs = acEnc x ∧ AcOk w x := by
  obtain ⟨hl, m, hf⟩ := open_fields Try.underlying30 h
  have hc : Try.prog.cellsOf 30 = 5 := by kernel_rfl
  have c8 : Try.prog.cellsOf 5 = 1 := by kernel_rfl
  have cs1 : Try.prog.cellsOf 9 = 1 := by kernel_rfl
  have ci : Try.prog.cellsOf 3 = 1 := by kernel_rfl
  have csl : Try.prog.cellsOf 28 = 1 := by kernel_rfl
  rw [hc] at hl
  match cs, hl with
  | [c0, c1, c2, c3, c4], _ =>
    obtain ⟨a0, rfl, w0⟩ := field_int Try.underlying5 c8 (o := 0) (c := c0) rfl (hf 0 _ rfl)
    obtain ⟨a1, rfl, w1⟩ := field_string Try.underlying9 cs1 (o := 1) (c := c1) rfl (hf 1 _ rfl)
    obtain ⟨a2, rfl, w2⟩ := field_string Try.underlying9 cs1 (o := 2) (c := c2) rfl (hf 2 _ rfl)
    obtain ⟨a3, rfl, w3⟩ := field_int Try.underlying3 ci (o := 3) (c := c3) rfl (hf 3 _ rfl)
    obtain ⟨hs, d, ps, ht⟩ := field_slice Try.underlying28 csl (o := 4) (c := c4) rfl (hf 4 _ rfl)
    obtain ⟨T, hT, _⟩ := open_slc_ints Try.underlying28 Try.underlying3 ci hs ht
    exact ⟨⟨a0, a1, a2, a3, c4⟩, rfl, wf_u8 w0, wf_i64 w3, T, hT⟩
set_option maxRecDepth 100000 in
theorem open_acts {H : Type} {enc : TypeId × Value → H} {W : World} {base : Nat} {v0 : Value} {d0 : DataW H} {p0 : List MemPlace}
    (h0 : DataW.Trod enc Try.prog W 0 (fun _ => true) true 22 v0 d0 p0) (k0 : Value.okWide Try.prog W .any base 22 v0) : ∃ C, Slc acEnc 5 W v0 C ∧ ∀ x ∈ C, AcOk W x := by
  obtain ⟨a, len, cap, rfl⟩ := okWide_slice Try.underlying22 k0
  obtain ⟨L, hL, hw⟩ := open_slc (ρ := acEnc) (Wf := AcOk W) Try.underlying22 (show Try.prog.cellsOf 30 = 5 by kernel_rfl) (by omega) (fun n cs y hy => open_act n cs y hy) ⟨_, _, _, rfl⟩ h0
  exact ⟨L, hL, hw⟩
set_option maxRecDepth 100000 in
theorem open_keep {H : Type} {enc : TypeId × Value → H} {W : World} {base : Nat} {v0 : Value} {d0 : DataW H} {p0 : List MemPlace}
    (h0 : DataW.Trod enc Try.prog W 0 (fun _ => true) true 28 v0 d0 p0) (k0 : Value.okWide Try.prog W .any base 28 v0) : ∃ K, Slc (intEnc .i64) 1 W v0 K := by
  obtain ⟨a, len, cap, rfl⟩ := okWide_slice Try.underlying28 k0
  obtain ⟨T, hT, _⟩ := open_slc_ints Try.underlying28 Try.underlying3 (by kernel_rfl) ⟨_, _, _, rfl⟩ h0
  exact ⟨T, hT⟩
end Go.Proofs.Ytgpdbifgbabnnaa
