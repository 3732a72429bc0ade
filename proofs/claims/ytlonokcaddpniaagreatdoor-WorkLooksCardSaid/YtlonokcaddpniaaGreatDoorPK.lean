/- Chapter 09: how the laws' arguments are opened: properties. Conditions: none. Written by gen_prArgs.py. (Texts joined.) -/
import Derived.Test.YtlonokcaddpniaaGreatDoorPJ
import Derived.Test.YtlonokcaddpniaaGreatDoorPA
import Derived.Test.YtlonokcaddpniaaGreatDoorKP
set_option linter.unusedSimpArgs false
set_option linter.unusedVariables false
namespace Go.Proofs.YtlonokcaddpniaaGreatDoor
open Go.RowKit
def hp1 : Pr := ⟨⟨#[113]⟩, true, false, ⟨#[]⟩, V.zero⟩
def hp2 : Pr := ⟨⟨#[]⟩, false, true, ⟨#[]⟩, V.zero⟩
theorem gotP_open {w : World} {o : Option Pr} {e : Ending} {w' : World} (h : GotP w o e w') : ∃ (key : ByteArray) (dur red : Bool) (mid : ByteArray) (uk un : Int) (us : ByteArray) (uka : Option Addr) (ukc : Nat) (ula : Option Addr) (ulc : Nat) (uks : List ByteArray) (ul : List VT),
    e = .returned (.tuple #[.agg #[.string key, .bool dur, .bool red, .string mid, .int .u8 uk, .int .u64 un, .string us, .slice uka uks.length ukc, .slice ula ul.length ulc], .int .i64 (prE o)]) ∧ (PT.mk key dur red mid (VT.mk uk un us (.slice uka uks.length ukc) (.slice ula ul.length ulc) uks ul)).p = prV o ∧ Rd (fun i => w.heap.size ≤ i) w' (VT.mk uk un us (.slice uka uks.length ukc) (.slice ula ul.length ulc) uks ul) ∧ Below w.heap.size w w' := by
  obtain ⟨⟨key, dur, red, mid, tv⟩, he, hp, hR, hB⟩ := h; have hR : Rd _ _ tv := hR; obtain ⟨uk, un, us, uka, ukc, ula, ulc, uks, ul, rfl, -⟩ := hR.open; exact ⟨key, dur, red, mid, uk, un, us, uka, ukc, ula, ulc, uks, ul, he, hp, hR, hB⟩
end Go.Proofs.YtlonokcaddpniaaGreatDoor
namespace Go.Proofs.YtlonokcaddpniaaGreatDoor
open Go.ChangeShapes Go.WideShapes Go.ChangeAt Go.RowKit
set_option maxRecDepth 100000
section
variable {H : Type} {enc : TypeId × Value → H} {w : World} {base : Nat} {spare : Nat → Bool} {held : Bool}
def pEnc (t : PT) : List Value := [.string t.key, .bool t.dur, .bool t.red, .string t.mid, .int .u8 t.app.k, .int .u64 t.app.n, .string t.app.s, t.app.kv, t.app.lv]
/-- Properties that came in. -/
theorem open_prop (fuel : Nat) (cs : List Value) (y : DataW H × List MemPlace) (h : DataW.trod enc Tryz.prog w base spare held fuel 33 cs = some y) : ∃ t : PT, cs = pEnc t ∧ Rd (fun _ => True) w t.app := by
  obtain ⟨hl, n, rfl, g⟩ := struct_fields Tryz.underlying33 h; have hc : Tryz.prog.cellsOf 33 = 9 := by kernel_rfl
  have c0 : Tryz.prog.cellsOf 31 = 5 := by kernel_rfl
  have c1 : Tryz.prog.cellsOf 4 = 1 := by kernel_rfl
  have c2 : Tryz.prog.cellsOf 9 = 1 := by kernel_rfl
  rw [hc] at hl
  match cs, hl with
  | [a0, a1, a2, a3, a4, a5, a6, a7, a8], _ =>
    obtain ⟨key, rfl, _⟩ := field_string Tryz.underlying9 c2 (o := 0) (c := a0) rfl (g 0 _ rfl); obtain ⟨dur, rfl⟩ := field_bool Tryz.underlying4 c1 (o := 1) (c := a1) rfl (g 1 _ rfl); obtain ⟨red, rfl⟩ := field_bool Tryz.underlying4 c1 (o := 2) (c := a2) rfl (g 2 _ rfl); obtain ⟨mid, rfl, _⟩ := field_string Tryz.underlying9 c2 (o := 3) (c := a3) rfl (g 3 _ rfl); obtain ⟨z4, h4⟩ := g 4 _ rfl; have h4' : DataW.trod enc Tryz.prog w base spare held n 31 (([.string key, .bool dur, .bool red, .string mid, a4, a5, a6, a7, a8].drop 4).take (Tryz.prog.cellsOf 31)) = some z4 := h4; rw [c0] at h4'; simp only [List.drop_succ_cons, List.drop_zero, List.take_succ_cons, List.take_zero] at h4'; obtain ⟨t, ht, hR⟩ := open_val n _ _ h4'; refine ⟨.mk key dur red mid t, ?_, hR⟩; show [_, _, _, _, a4, a5, a6, a7, a8] = [_, _, _, _] ++ vEnc t
    rw [← ht]; rfl
end
end Go.Proofs.YtlonokcaddpniaaGreatDoor
