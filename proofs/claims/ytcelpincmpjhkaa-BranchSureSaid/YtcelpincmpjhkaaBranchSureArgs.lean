/- The law BranchSure from its arguments as they are read. Conditions: none. -/
import Derived.Test.YtcelpincmpjhkaaBranchSure
import Derived.Test.YtcelpincmpjhkaaBranchArgs
namespace Go.Proofs.Ytcelpincmpjhkaa
open Go.ChangeShapes Go.WideShapes Go.ChangeAt Go.RowKit

set_option maxRecDepth 100000 in
theorem branchSure_args {H : Type} (enc : TypeId × Value → H) (W : World) {base : Nat} (v0 : Value) (d0 : DataW H) (p0 : List MemPlace) (v1 : Value) (d1 : DataW H) (p1 : List MemPlace) (v2 : Value) (d2 : DataW H) (p2 : List MemPlace)
    (h0 : DataW.Trod enc Try.prog W 0 (fun _ => true) true 25 v0 d0 p0) (h1 : DataW.Trod enc Try.prog W 0 (fun _ => true) true 28 v1 d1 p1) (h2 : DataW.Trod enc Try.prog W 0 (fun _ => true) true 4 v2 d2 p2)
    (k0 : Value.okWide Try.prog W .any base 25 v0) (k1 : Value.okWide Try.prog W .any base 28 v1) (k2 : Value.okWide Try.prog W .any base 4 v2) {S : Prop} (_ : S) :
    Calls Try.prog 5 #[v0, v1, v2] W fun e w' => e = .returned (.bool true) ∧ Below W.heap.size W w' := by
  obtain ⟨rv, av, R, A, rfl, hR, hA⟩ := open_tab k0 h0
  obtain ⟨x, rfl⟩ := open_xid_arg k1 h1
  obtain ⟨b, rfl, -⟩ := open_bool Try.underlying4 k2 h2
  exact branchSure_any W rv av R A x b hR hA
end Go.Proofs.Ytcelpincmpjhkaa
