/- DiskApart: from the arguments as they are read to the walk. Conditions: none. Written by gen_dlArgs.py. -/
import Derived.Test.YtgpdbifgbabnnaaDlArgs
import Derived.Test.YtgpdbifgbabnnaaDlF
namespace Go.Proofs.Ytgpdbifgbabnnaa
open Go.RowKit Go.ChangeShapes Go.WideShapes Go.ChangeAt
set_option linter.unusedVariables false
set_option linter.unusedSimpArgs false
set_option maxRecDepth 100000 in
theorem diskApart_args {H : Type} (enc : TypeId × Value → H) (W : World) {base : Nat} (v0 : Value) (d0 : DataW H) (p0 : List MemPlace) (v1 : Value) (d1 : DataW H) (p1 : List MemPlace)
    (h0 : DataW.Trod enc Try.prog W 0 (fun _ => true) true 22 v0 d0 p0) (h1 : DataW.Trod enc Try.prog W 0 (fun _ => true) true 22 v1 d1 p1)
    (k0 : Value.okWide Try.prog W .any base 22 v0) (k1 : Value.okWide Try.prog W .any base 22 v1) {S : Prop} (_ : S) :
    Calls Try.prog 6 #[v0, v1] W fun e w' => e = .returned (.bool true) ∧ Below W.heap.size W w' := by
  obtain ⟨C0, hC0, hw0⟩ := open_acts h0 k0
  obtain ⟨C1, hC1, hw1⟩ := open_acts h1 k1
  exact apart_any list_any clone_any W _ C0 _ C1 hC0 hw0 hC1 hw1
end Go.Proofs.Ytgpdbifgbabnnaa
