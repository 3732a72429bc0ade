/- The law AssocRight from its arguments as they are read. Conditions: none. -/
import Derived.Test.YtfjpdikaodojhaaAssocRight
import Derived.Test.YtfjpdikaodojhaaAssocArgs
namespace Go.Proofs.Ytfjpdikaodojhaa
open Go.ChangeShapes Go.WideShapes Go.ChangeAt Go.RowKit

theorem assocRight_args {H : Type} (enc : TypeId × Value → H) (W : World) {base : Nat} (v0 : Value) (d0 : DataW H) (p0 : List MemPlace) (v1 : Value) (d1 : DataW H) (p1 : List MemPlace) (v2 : Value) (d2 : DataW H) (p2 : List MemPlace)
    (h0 : DataW.Trod enc Try.prog W 0 (fun _ => true) true 22 v0 d0 p0) (h1 : DataW.Trod enc Try.prog W 0 (fun _ => true) true 23 v1 d1 p1) (h2 : DataW.Trod enc Try.prog W 0 (fun _ => true) true 26 v2 d2 p2)
    (k0 : Value.okWide Try.prog W .any base 22 v0) (k1 : Value.okWide Try.prog W .any base 23 v1) (k2 : Value.okWide Try.prog W .any base 26 v2) {S : Prop} (_ : S) :
    Calls Try.prog 6 #[v0, v1, v2] W fun e w' => e = .returned (.bool true) ∧ Below W.heap.size W w' := by
  obtain ⟨L, hL⟩ := open_ascs k0 h0
  obtain ⟨n, rfl, rfl, rfl, wn⟩ := open_int Try.underlying23 k1 h1
  obtain ⟨x, rfl⟩ := open_xid_arg k2 h2
  exact assocRight_any W v0 L n x hL
end Go.Proofs.Ytfjpdikaodojhaa
