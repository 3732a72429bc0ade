/- The law QueueOrder from its arguments as they are read. Conditions: none. -/
import Derived.Test.YtnmphchlephpbaaQueueOrder
import Derived.ProofKit
import Derived.OpenShut
namespace Go.Proofs.Ytnmphchlephpbaa
open Go.ChangeShapes Go.WideShapes Go.ChangeAt Go.RowKit

theorem order_args {H : Type} (enc : TypeId × Value → H) (W : World) {base : Nat} (v0 : Value) (d0 : DataW H) (p0 : List MemPlace) (v1 : Value) (d1 : DataW H) (p1 : List MemPlace)
    (h0 : DataW.Trod enc Try.prog W 0 (fun _ => true) true 22 v0 d0 p0) (h1 : DataW.Trod enc Try.prog W 0 (fun _ => true) true 23 v1 d1 p1)
    (k0 : Value.okWide Try.prog W .any base 22 v0) (k1 : Value.okWide Try.prog W .any base 23 v1) {S : Prop} (_ : S) :
    Calls Try.prog 3 #[v0, v1] W fun e w' => e = .returned (.bool true) ∧ Below W.heap.size W w' := by
  obtain ⟨a, len, cap, rfl⟩ := okWide_slice Try.underlying22 k0
  obtain ⟨b, len2, cap2, rfl⟩ := okWide_slice Try.underlying23 k1
  obtain ⟨G, hG, hw⟩ := open_slc_ints Try.underlying22 Try.underlying29 (by kernel_rfl) ⟨_, _, _, rfl⟩ h0
  obtain ⟨O, hO, hu⟩ := open_slc_ints Try.underlying23 Try.underlying5 (by kernel_rfl) ⟨_, _, _, rfl⟩ h1
  exact order_any W _ _ G O hG hO (fun n hn => bounds_u16 (hw n hn)) (fun n hn => bounds_u8 (hu n hn))
end Go.Proofs.Ytnmphchlephpbaa
