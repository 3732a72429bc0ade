/- The law AssocRuns from its arguments as they are read. Conditions: none. -/
import Derived.Test.YtfjpdikaodojhaaAssocRuns
import Derived.Test.YtfjpdikaodojhaaAssocArgs
namespace Go.Proofs.Ytfjpdikaodojhaa
open Go.ChangeShapes Go.WideShapes Go.ChangeAt Go.RowKit
section
variable {H : Type} {enc : TypeId × Value → H} {w : World} {base : Nat} {spare : Nat → Bool} {held : Bool}
theorem open_rcall (n : Nat) (cs : List Value) (y : DataW H × List MemPlace)
    (h : DataW.trod enc Try.prog w base spare held n 52 cs = some y) : ∃ x : RCall, cs = rcEnc x ∧ (0 ≤ x.1 ∧ x.1 ≤ 255) := by
  obtain ⟨hl, m, hf⟩ := open_fields Try.underlying52 h
  have hc : Try.prog.cellsOf 52 = 5 := by kernel_rfl
  have c64 : Try.prog.cellsOf 23 = 1 := by kernel_rfl
  have c8 : Try.prog.cellsOf 5 = 1 := by kernel_rfl
  rw [hc] at hl
  match cs, hl with
  | [c0, c1, c2, c3, c4], _ =>
    obtain ⟨a0, rfl, w0⟩ := field_int Try.underlying5 c8 (o := 0) (c := c0) rfl (hf 0 _ rfl)
    obtain ⟨a1, rfl, w1⟩ := field_int Try.underlying23 c64 (o := 1) (c := c1) rfl (hf 1 _ rfl)
    obtain ⟨z, hz⟩ := hf 2 _ rfl
    have hz' : DataW.trod enc Try.prog w base spare held m 26 (([Value.int .u8 a0, .int .u64 a1, c2, c3, c4].drop 2).take (Try.prog.cellsOf 26)) = some z := hz
    rw [cells_xid] at hz'
    obtain ⟨x, hx⟩ := open_xid m _ _ hz'
    have hx' : [c2, c3, c4] = xidCells x := hx
    simp only [xidCells, List.cons.injEq, and_true] at hx'
    obtain ⟨rfl, rfl, rfl⟩ := hx'
    exact ⟨(a0, a1, x), rfl, bounds_u8 w0⟩
end
theorem assocRuns_args {H : Type} (enc : TypeId × Value → H) (W : World) {base : Nat} (v0 : Value) (d0 : DataW H) (p0 : List MemPlace)
    (h0 : DataW.Trod enc Try.prog W 0 (fun _ => true) true 50 v0 d0 p0)
    (k0 : Value.okWide Try.prog W .any base 50 v0) {S : Prop} (_ : S) :
    Calls Try.prog 7 #[v0] W fun e w' => e = .returned (.bool true) ∧ Below W.heap.size W w' := by
  obtain ⟨a, len, cap, rfl⟩ := okWide_slice Try.underlying50 k0
  obtain ⟨L, hL, hw⟩ := open_slc (ρ := rcEnc) (Wf := fun x => 0 ≤ x.1 ∧ x.1 ≤ 255) Try.underlying50 (show Try.prog.cellsOf 52 = 5 by kernel_rfl) (by omega) (fun n cs y hy => open_rcall n cs y hy) ⟨_, _, _, rfl⟩ h0
  exact assocRuns_any W _ L hL hw
end Go.Proofs.Ytfjpdikaodojhaa
