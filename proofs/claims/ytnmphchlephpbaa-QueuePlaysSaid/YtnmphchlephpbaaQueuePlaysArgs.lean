/- The law QueuePlays from its arguments as they are read. Conditions: none. -/
import Derived.Test.YtnmphchlephpbaaQueuePlays
import Derived.ProofKit
import Derived.OpenShut
namespace Go.Proofs.Ytnmphchlephpbaa
open Go.ChangeShapes Go.WideShapes Go.ChangeAt Go.RowKit

theorem plays_args {H : Type} (enc : TypeId × Value → H) (W : World) {base : Nat} (v0 : Value) (d0 : DataW H) (p0 : List MemPlace) (v1 : Value) (d1 : DataW H) (p1 : List MemPlace)
    (h0 : DataW.Trod enc Try.prog W 0 (fun _ => true) true 27 v0 d0 p0) (h1 : DataW.Trod enc Try.prog W 0 (fun _ => true) true 44 v1 d1 p1)
    (k0 : Value.okWide Try.prog W .any base 27 v0) (k1 : Value.okWide Try.prog W .any base 44 v1) {S : Prop} (_ : S) :
    Calls Try.prog 5 #[v0, v1] W fun e w' => e = .returned (.bool true) ∧ Below W.heap.size W w' := by
  obtain ⟨n, rfl, rfl, rfl, wn⟩ := open_int Try.underlying27 k0 h0
  obtain ⟨a, len, cap, rfl⟩ := okWide_slice Try.underlying44 k1
  obtain ⟨L, hL, hw⟩ := open_slc (ρ := callCells) (Wf := QCallOk) Try.underlying44 (show Try.prog.cellsOf 51 = 6 by kernel_rfl) (by omega) (fun n cs y hy => open_qcall n cs y hy) ⟨_, _, _, rfl⟩ h1
  exact plays_any W n _ L hL hw (bounds_u64 wn).1
end Go.Proofs.Ytnmphchlephpbaa
