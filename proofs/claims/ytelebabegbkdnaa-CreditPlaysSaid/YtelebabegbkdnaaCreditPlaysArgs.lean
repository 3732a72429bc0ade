/- The law CreditPlays from its arguments as they are read. Conditions: none. -/
import Derived.Test.YtelebabegbkdnaaCreditPlays
import Derived.ProofKit
import Derived.OpenShut
namespace Go.Proofs.Ytelebabegbkdnaa
open Go.ChangeShapes Go.WideShapes Go.ChangeAt Go.RowKit

theorem plays_args {H : Type} (enc : TypeId × Value → H) (W : World) {base : Nat} (v0 : Value) (d0 : DataW H) (p0 : List MemPlace)
    (h0 : DataW.Trod enc Try.prog W 0 (fun _ => true) true 36 v0 d0 p0)
    (k0 : Value.okWide Try.prog W .any base 36 v0) {S : Prop} (_ : S) :
    Calls Try.prog 5 #[v0] W fun e w' => e = .returned (.bool true) ∧ Below W.heap.size W w' := by
  obtain ⟨a, len, cap, rfl⟩ := okWide_slice Try.underlying36 k0
  obtain ⟨L, hL, hw⟩ := open_slc (ρ := ccEnc) (Wf := CCOk W) Try.underlying36 (show Try.prog.cellsOf 42 = 4 by kernel_rfl) (by omega) (fun n cs y hy => open_ccall n cs y hy) ⟨_, _, _, rfl⟩ h0
  exact plays_any W _ L hL hw
end Go.Proofs.Ytelebabegbkdnaa
