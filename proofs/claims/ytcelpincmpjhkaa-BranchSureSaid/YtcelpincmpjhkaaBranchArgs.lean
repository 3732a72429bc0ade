/- Chapter 19: how the laws' arguments are opened: rows of branches, tables. Conditions: none. -/
import Derived.Test.YtcelpincmpjhkaaBrB
import Derived.Test.YtcelpincmpjhkaaAssocArgs
import Derived.Test.YtcelpincmpjhkaaOpenS
import Derived.ProofKit
import Derived.OpenShut
namespace Go.Proofs.Ytcelpincmpjhkaa
open Go.ChangeShapes Go.WideShapes Go.ChangeAt Go.RowKit
set_option maxRecDepth 100000
section
variable {H : Type} {enc : TypeId × Value → H} {w : World} {base : Nat} {spare : Nat → Bool} {held : Bool}
theorem open_br (n : Nat) (cs : List Value) (y : DataW H × List MemPlace)
    (h : DataW.trod enc Try.prog w base spare held n 44 cs = some y) : ∃ x : Brn, cs = brEnc x ∧ True := by
  obtain ⟨hl, m, hf⟩ := open_fields Try.underlying44 h
  have hc : Try.prog.cellsOf 44 = 7 := by kernel_rfl
  have c1 : Try.prog.cellsOf 42 = 1 := by kernel_rfl
  have c2 : Try.prog.cellsOf 35 = 1 := by kernel_rfl
  have c3 : Try.prog.cellsOf 26 = 1 := by kernel_rfl
  rw [hc] at hl
  match cs, hl with
  | [a0, a1, a2, a3, a4, a5, a6], _ =>
    obtain ⟨z, hz⟩ := hf 0 _ rfl
    have hz' : DataW.trod enc Try.prog w base spare held m 28 (([a0, a1, a2, a3, a4, a5, a6].drop 0).take (Try.prog.cellsOf 28)) = some z := hz
    rw [cells_xid] at hz'
    obtain ⟨x, hx⟩ := open_xid m _ _ hz'
    obtain ⟨b3, rfl, _⟩ := field_int Try.underlying42 c1 (o := 3) (c := a3) rfl (hf 1 _ rfl)
    obtain ⟨b4, rfl, _⟩ := field_int Try.underlying35 c2 (o := 4) (c := a4) rfl (hf 2 _ rfl)
    obtain ⟨b5, rfl, _⟩ := field_int Try.underlying26 c3 (o := 5) (c := a5) rfl (hf 3 _ rfl)
    obtain ⟨b6, rfl, _⟩ := field_int Try.underlying26 c3 (o := 6) (c := a6) rfl (hf 4 _ rfl)
    have hx' : [a0, a1, a2] = xidCells x := hx
    simp only [xidCells, List.cons.injEq, and_true] at hx'
    obtain ⟨rfl, rfl, rfl⟩ := hx'
    exact ⟨⟨x, b3, b4, b5, b6⟩, rfl, trivial⟩
theorem slice_cell {t e : TypeId} {n : Nat} {c : Value} {y : DataW H × List MemPlace} (ht : Try.prog.underlying t = some (.slice e)) (h : DataW.trod enc Try.prog w base spare held n t [c] = some y) : ∃ a l cap, c = .slice a l cap := by
  rcases Deep.open_slice ht h with ⟨hcs, _⟩ | ⟨a, len, cap, mm, n, D, Pl, hcs, _⟩
  · simp only [List.cons.injEq, and_true] at hcs; exact ⟨_, _, _, hcs⟩
  · simp only [List.cons.injEq, and_true] at hcs; exact ⟨_, _, _, hcs⟩
theorem open_tab {b : Nat} {v : Value} {d : DataW H} {ps : List MemPlace} (hv : Value.okWide Try.prog w .any b 25 v) (h : DataW.Trod enc Try.prog w base spare held 25 v d ps) :
    ∃ (rv av : Value) (R : List Brn) (A : List Asc), v = .agg #[rv, av] ∧ Slc brEnc 7 w rv R ∧ Slc ascEnc 5 w av A := by
  obtain ⟨cs, rfl, hs⟩ := okWide_struct Try.underlying25 hv
  obtain ⟨n, hn⟩ := h
  have hc : Try.prog.cellsOf 25 = 2 := by kernel_rfl
  have cr : Try.prog.cellsOf 22 = 1 := by kernel_rfl
  have ca : Try.prog.cellsOf 23 = 1 := by kernel_rfl
  rw [hc] at hs
  obtain ⟨c0, c1, rfl⟩ : ∃ c0 c1, cs = #[c0, c1] := by
    have : cs.toList.length = 2 := by simpa using hs
    match h : cs.toList, this with
    | [c0, c1], _ => exact ⟨c0, c1, by rw [← Array.toList_inj]; exact h⟩
  have hn' : DataW.trod enc Try.prog w base spare held n 25 [c0, c1] = some (d, ps) := by simpa [Value.cells] using hn
  obtain ⟨hl, m, hf⟩ := open_fields Try.underlying25 hn'
  obtain ⟨z0, h0⟩ := hf 0 _ rfl
  obtain ⟨z1, h1⟩ := hf 1 _ rfl
  have h0' : DataW.trod enc Try.prog w base spare held m 22 (([c0, c1].drop 0).take (Try.prog.cellsOf 22)) = some z0 := h0
  have h1' : DataW.trod enc Try.prog w base spare held m 23 (([c0, c1].drop 1).take (Try.prog.cellsOf 23)) = some z1 := h1
  rw [cr] at h0'
  rw [ca] at h1'
  simp only [List.drop_zero, List.drop_succ_cons, List.take_succ_cons, List.take_zero] at h0' h1'
  obtain ⟨a, l, cap, rfl⟩ := slice_cell Try.underlying22 h0'
  obtain ⟨a', l', cap', rfl⟩ := slice_cell Try.underlying23 h1'
  obtain ⟨R, hR, _⟩ := open_slc (ρ := brEnc) (Wf := fun _ => True) (d := z0.1) (ps := z0.2) Try.underlying22 (show Try.prog.cellsOf 44 = 7 by kernel_rfl) (by omega) (fun n cs y hy => open_br n cs y hy) ⟨_, _, _, rfl⟩ ⟨m, by simpa [Value.cells] using h0'⟩
  obtain ⟨A, hA, _⟩ := open_slc (ρ := ascEnc) (Wf := fun _ => True) (d := z1.1) (ps := z1.2) Try.underlying23 (show Try.prog.cellsOf 57 = 5 by kernel_rfl) (by omega) (fun n cs y hy => open_asc n cs y hy) ⟨_, _, _, rfl⟩ ⟨m, by simpa [Value.cells] using h1'⟩
  exact ⟨_, _, R, A, rfl, hR, hA⟩
end
end Go.Proofs.Ytcelpincmpjhkaa
