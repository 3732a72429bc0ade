/- The law CreditFair from its arguments as they are read. Conditions: none. -/
import Derived.Test.YtelebabegbkdnaaCreditFairWalk
import Derived.ProofKit
import Derived.OpenShut
namespace Go.Proofs.Ytelebabegbkdnaa
open Go.ChangeShapes Go.WideShapes Go.ChangeAt Go.RowKit

theorem fair_args {H : Type} (enc : TypeId × Value → H) (W : World) {base : Nat} (v0 : Value) (d0 : DataW H) (p0 : List MemPlace) (v1 : Value) (d1 : DataW H) (p1 : List MemPlace)
    (h0 : DataW.Trod enc Try.prog W 0 (fun _ => true) true 5 v0 d0 p0) (h1 : DataW.Trod enc Try.prog W 0 (fun _ => true) true 5 v1 d1 p1)
    (k0 : Value.okWide Try.prog W .any base 5 v0) (k1 : Value.okWide Try.prog W .any base 5 v1) {S : Prop} (_ : S) :
    Calls Try.prog 4 #[v0, v1] W fun e w' => e = .returned (.bool true) ∧ Below W.heap.size W w' := by
  obtain ⟨a, rfl, rfl, rfl, wa⟩ := open_int Try.underlying5 k0 h0
  obtain ⟨b, rfl, rfl, rfl, wb⟩ := open_int Try.underlying5 k1 h1
  have ha := bounds_u8 wa
  have hb := bounds_u8 wb
  exact fair_any W a b ha.1 ha.2 hb.1 hb.2
end Go.Proofs.Ytelebabegbkdnaa
