/- The document's reader of values: lists. Conditions: at most 200 values are left. Written by gen_getF.py. (Texts joined.) -/
import Derived.Test.YtlonokcaddpniaaGreatDoorGetG
import Derived.Deep.CutBlock
import Derived.Deep.CutRange
set_option linter.unusedSimpArgs false
set_option linter.unusedVariables false
namespace Go.Proofs.YtlonokcaddpniaaGreatDoor
open Go.RowKit
theorem DSt.whole {w0 w w' : World} {rb xb : Nat} {k : Int} {b : List UInt8} {bad : Bool} {kv lv : Value} {ks : List ByteArray} {L : List VT} {S : Nat → Prop} (h : DSt w0 rb xb k w b bad kv lv ks L) (hu : Upd S w w') (hS : ∀ i, S i → i < w0.heap.size) (h0 : 0 ≤ k) (h1 : k < 256) : Rd (fun i => w0.heap.size ≤ i) w' (.mk k 0 ⟨#[]⟩ kv lv ks L) :=
  .mk ((h.ko.upd hu (fun i hi e => by have h2 := h.ko.ge hi; have h3 := hS i e; omega)).slc strEnc_len) (fun _ i hi => h.ko.ge hi) ((h.lo.upd hu (fun i hi e => by have h2 := h.lo.ge hi; have h3 := hS i e; omega)).slc vEnc_len) (fun _ i hi => h.lo.ge hi)
    (fun x hx => ((h.rd x hx).upd hu (fun i hi e => by have h2 := hi.1; have h3 := hS i e; omega)).weaken (fun i _ hi => hi.1)) (by show (0 : Int) ≤ 0; omega) (by show (0 : Int) < 18446744073709551616; omega) h0 h1
end Go.Proofs.YtlonokcaddpniaaGreatDoor
