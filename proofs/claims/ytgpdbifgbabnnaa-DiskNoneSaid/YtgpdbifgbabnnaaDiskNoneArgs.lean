/- DiskNone: from the arguments as they are read to the walk. Conditions: none. -/
import Derived.Test.YtgpdbifgbabnnaaDiskNone
import Derived.Test.YtgpdbifgbabnnaaDkG
import Derived.ProofKit
import Derived.OpenShut
namespace Go.Proofs.Ytgpdbifgbabnnaa
open Go.RowKit
set_option linter.unusedVariables false
open Go.ChangeShapes Go.WideShapes Go.ChangeAt in
set_option maxRecDepth 100000 in
theorem diskNone_args {H : Type} (enc : TypeId × Value → H) (w : World) {base : Nat} (v0 : Value) (d0 : DataW H) (p0 : List MemPlace) (v1 : Value) (d1 : DataW H) (p1 : List MemPlace)
    (h0 : DataW.Trod enc Try.prog w 0 (fun _ => true) true 9 v0 d0 p0) (h1 : DataW.Trod enc Try.prog w 0 (fun _ => true) true 3 v1 d1 p1)
    (k0 : Value.okWide Try.prog w .any base 9 v0) (k1 : Value.okWide Try.prog w .any base 3 v1) {S : Prop} (_ : S) :
    Calls Try.prog 7 #[v0, v1] w fun e w' => e = .returned (.bool true) ∧ Below w.heap.size w w' := by
  obtain ⟨s, rfl, rfl, rfl, hs⟩ := Go.ChangeMaps.open_string Try.underlying9 k0 h0
  obtain ⟨n, rfl, rfl, rfl, hn⟩ := open_int Try.underlying3 k1 h1
  exact diskNone_walk list_any w s n
end Go.Proofs.Ytgpdbifgbabnnaa
