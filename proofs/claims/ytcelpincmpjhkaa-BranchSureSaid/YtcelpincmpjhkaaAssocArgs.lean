/- Chapter 18: how the laws' arguments are opened. Conditions: none. -/
import Derived.Test.YtcelpincmpjhkaaAssocA
import Derived.Test.YtcelpincmpjhkaaOpenS
import Derived.ProofKit
import Derived.OpenShut
namespace Go.Proofs.Ytcelpincmpjhkaa
open Go.ChangeShapes Go.WideShapes Go.ChangeAt Go.RowKit
set_option maxRecDepth 100000
section
variable {H : Type} {enc : TypeId × Value → H} {w : World} {base : Nat} {spare : Nat → Bool} {held : Bool}
theorem cells_xid : Try.prog.cellsOf 28 = 3 := by kernel_rfl
theorem open_xid (n : Nat) (cs : List Value) (y : DataW H × List MemPlace)
    (h : DataW.trod enc Try.prog w base spare held n 28 cs = some y) : ∃ x : Xid, cs = xidCells x := by
  obtain ⟨hl, m, hf⟩ := open_fields Try.underlying28 h
  have cs1 : Try.prog.cellsOf 9 = 1 := by kernel_rfl
  have c32 : Try.prog.cellsOf 26 = 1 := by kernel_rfl
  rw [cells_xid] at hl
  match cs, hl with
  | [c0, c1, c2], _ =>
    obtain ⟨a0, rfl, w0⟩ := field_int Try.underlying26 c32 (o := 0) (c := c0) rfl (hf 0 _ rfl)
    obtain ⟨a1, rfl, w1⟩ := field_string Try.underlying9 cs1 (o := 1) (c := c1) rfl (hf 1 _ rfl)
    obtain ⟨a2, rfl, w2⟩ := field_string Try.underlying9 cs1 (o := 2) (c := c2) rfl (hf 2 _ rfl)
    exact ⟨(a0, a1, a2), rfl⟩
theorem open_asc (n : Nat) (cs : List Value) (y : DataW H × List MemPlace)
    (h : DataW.trod enc Try.prog w base spare held n 57 cs = some y) : ∃ x : Asc, cs = ascEnc x ∧ True := by
  obtain ⟨hl, m, hf⟩ := open_fields Try.underlying57 h
  have hc : Try.prog.cellsOf 57 = 5 := by kernel_rfl
  have c64 : Try.prog.cellsOf 29 = 1 := by kernel_rfl
  have cb : Try.prog.cellsOf 4 = 1 := by kernel_rfl
  rw [hc] at hl
  match cs, hl with
  | [c0, c1, c2, c3, c4], _ =>
    obtain ⟨a0, rfl, w0⟩ := field_int Try.underlying29 c64 (o := 0) (c := c0) rfl (hf 0 _ rfl)
    obtain ⟨z, hz⟩ := hf 1 _ rfl
    have hz' : DataW.trod enc Try.prog w base spare held m 28 (([Value.int .u64 a0, c1, c2, c3, c4].drop 1).take (Try.prog.cellsOf 28)) = some z := hz
    rw [cells_xid] at hz'
    obtain ⟨x, hx⟩ := open_xid m _ _ hz'
    obtain ⟨a4, rfl⟩ := field_bool Try.underlying4 cb (o := 4) (c := c4) rfl (hf 2 _ rfl)
    have hx' : [c1, c2, c3] = xidCells x := hx
    simp only [xidCells, List.cons.injEq, and_true] at hx'
    obtain ⟨rfl, rfl, rfl⟩ := hx'
    exact ⟨(a0, x, a4), rfl, trivial⟩
theorem open_xid_arg {b : Nat} {v : Value} {d : DataW H} {ps : List MemPlace} (hv : Value.okWide Try.prog w .any b 28 v) (h : DataW.Trod enc Try.prog w base spare held 28 v d ps) :
    ∃ x : Xid, v = .agg #[.int .u32 x.1, .string x.2.1, .string x.2.2] := by
  obtain ⟨cs, rfl, hs⟩ := okWide_struct Try.underlying28 hv
  obtain ⟨n, hn⟩ := h
  obtain ⟨x, hx⟩ := open_xid n _ _ hn
  refine ⟨x, ?_⟩
  have : cs.toList = xidCells x := by simpa [Value.cells] using hx
  congr 1
  exact Array.toList_inj.1 (by rw [this]; rfl)
theorem open_ascs {b : Nat} {v : Value} {d : DataW H} {ps : List MemPlace} (hv : Value.okWide Try.prog w .any b 23 v) (h : DataW.Trod enc Try.prog w base spare held 23 v d ps) :
    ∃ L : List Asc, Slc ascEnc 5 w v L := by
  obtain ⟨a, len, cap, rfl⟩ := okWide_slice Try.underlying23 hv
  obtain ⟨L, hL, _⟩ := open_slc (ρ := ascEnc) (Wf := fun _ => True) Try.underlying23 (show Try.prog.cellsOf 57 = 5 by kernel_rfl) (by omega) (fun n cs y hy => open_asc n cs y hy) ⟨_, _, _, rfl⟩ h
  exact ⟨L, hL⟩
end
end Go.Proofs.Ytcelpincmpjhkaa
