/- The law QueueBack from its arguments as they are read. Conditions: none. -/
import Derived.Test.YtnmphchlephpbaaQueueBack
import Derived.ProofKit
import Derived.OpenShut
namespace Go.Proofs.Ytnmphchlephpbaa
open Go.ChangeShapes Go.WideShapes Go.ChangeAt Go.RowKit

theorem back_args {H : Type} (enc : TypeId × Value → H) (W : World) {base : Nat} (v0 : Value) (d0 : DataW H) (p0 : List MemPlace) (v1 : Value) (d1 : DataW H) (p1 : List MemPlace) (v2 : Value) (d2 : DataW H) (p2 : List MemPlace)
    (h0 : DataW.Trod enc Try.prog W 0 (fun _ => true) true 5 v0 d0 p0) (h1 : DataW.Trod enc Try.prog W 0 (fun _ => true) true 5 v1 d1 p1) (h2 : DataW.Trod enc Try.prog W 0 (fun _ => true) true 38 v2 d2 p2)
    (k0 : Value.okWide Try.prog W .any base 5 v0) (k1 : Value.okWide Try.prog W .any base 5 v1) (k2 : Value.okWide Try.prog W .any base 38 v2) {S : Prop} (_ : S) :
    Calls Try.prog 4 #[v0, v1, v2] W fun e w' => e = .returned (.bool true) ∧ Below W.heap.size W w' := by
  obtain ⟨a, rfl, rfl, rfl, wa⟩ := open_int Try.underlying5 k0 h0
  obtain ⟨b, rfl, rfl, rfl, wb⟩ := open_int Try.underlying5 k1 h1
  obtain ⟨c, len, cap, rfl⟩ := okWide_slice Try.underlying38 k2
  obtain ⟨O, hO⟩ := open_slc_bools Try.underlying38 Try.underlying4 (by kernel_rfl) ⟨_, _, _, rfl⟩ h2
  have ha := bounds_u8 wa
  have hb := bounds_u8 wb
  exact back_any W a b _ O ha.1 ha.2 hb.1 hb.2 hO
end Go.Proofs.Ytnmphchlephpbaa
