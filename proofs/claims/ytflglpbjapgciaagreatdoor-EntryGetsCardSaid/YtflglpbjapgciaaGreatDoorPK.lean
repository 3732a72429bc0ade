/- Chapter 09: how the laws' arguments are opened: properties. Conditions: none. Written by gen_prArgs.py. (Texts joined.) -/
import Derived.Test.YtflglpbjapgciaaGreatDoorPJ
import Derived.Test.YtflglpbjapgciaaGreatDoorPA
import Derived.Test.YtflglpbjapgciaaGreatDoorKP
set_option linter.unusedSimpArgs false
set_option linter.unusedVariables false
namespace Go.Proofs.YtflglpbjapgciaaGreatDoor
open Go.RowKit
theorem says_yes {B : Nat} {w w' : World} {Q : Prop} {e : Ending} (h : Says B w Q e w') (q : Q) : e = .returned (.bool true) ∧ Below B w w' := by
  obtain ⟨⟨b, rfl, hb⟩, hB⟩ := h; exact ⟨by rw [hb.2 q], hB⟩
def hp1 : Pr := ⟨⟨#[113]⟩, true, false, ⟨#[]⟩, V.zero⟩
def hp2 : Pr := ⟨⟨#[]⟩, false, true, ⟨#[]⟩, V.zero⟩
theorem gotP_open {w : World} {o : Option Pr} {e : Ending} {w' : World} (h : GotP w o e w') : ∃ (key : ByteArray) (dur red : Bool) (mid : ByteArray) (uk un : Int) (us : ByteArray) (uka : Option Addr) (ukc : Nat) (ula : Option Addr) (ulc : Nat) (uks : List ByteArray) (ul : List VT),
    e = .returned (.tuple #[.agg #[.string key, .bool dur, .bool red, .string mid, .int .u8 uk, .int .u64 un, .string us, .slice uka uks.length ukc, .slice ula ul.length ulc], .int .i64 (prE o)]) ∧ (PT.mk key dur red mid (VT.mk uk un us (.slice uka uks.length ukc) (.slice ula ul.length ulc) uks ul)).p = prV o ∧ Rd (fun i => w.heap.size ≤ i) w' (VT.mk uk un us (.slice uka uks.length ukc) (.slice ula ul.length ulc) uks ul) ∧ Below w.heap.size w w' := by
  obtain ⟨⟨key, dur, red, mid, tv⟩, he, hp, hR, hB⟩ := h; have hR : Rd _ _ tv := hR; obtain ⟨uk, un, us, uka, ukc, ula, ulc, uks, ul, rfl, -⟩ := hR.open; exact ⟨key, dur, red, mid, uk, un, us, uka, ukc, ula, ulc, uks, ul, he, hp, hR, hB⟩
end Go.Proofs.YtflglpbjapgciaaGreatDoor
namespace Go.Proofs.YtflglpbjapgciaaGreatDoor
open Go.ChangeShapes Go.WideShapes Go.ChangeAt Go.RowKit
set_option maxRecDepth 100000
section
variable {H : Type} {enc : TypeId × Value → H} {w : World} {base : Nat} {spare : Nat → Bool} {held : Bool}
end
end Go.Proofs.YtflglpbjapgciaaGreatDoor
