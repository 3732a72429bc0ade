/- Chapter 09: how the laws' arguments are opened: properties. Conditions: none. Written by gen_prArgs.py. (Texts joined; the heads of the others stand below.) -/
import Derived.Test.YtflglpbjapgciaaDoorPrI
import Derived.Test.YtflglpbjapgciaaDoorPA
import Derived.Test.YtflglpbjapgciaaDoorKP

/- The head of chapter 09's laws; contracts as the laws use them. Conditions: utf8's tables are laid. Written by gen_prK.py. -/
namespace Go.Proofs.YtflglpbjapgciaaDoor
set_option linter.unusedSimpArgs false
set_option linter.unusedVariables false
open Go.RowKit
theorem says_yes {B : Nat} {w w' : World} {Q : Prop} {e : Ending} (h : Says B w Q e w') (q : Q) : e = .returned (.bool true) ∧ Below B w w' := by
  obtain ⟨⟨b, rfl, hb⟩, hB⟩ := h
  exact ⟨by rw [hb.2 q], hB⟩
theorem says_not {B : Nat} {w w' : World} {Q : Prop} {e : Ending} (h : Says B w Q e w') (q : ¬ Q) : e = .returned (.bool false) ∧ Below B w w' := by
  obtain ⟨⟨b, rfl, hb⟩, hB⟩ := h
  cases b with
  | false => exact ⟨rfl, hB⟩
  | true => exact absurd (hb.1 rfl) q
theorem says_dec {B : Nat} {w w' : World} {Q : Prop} {e : Ending} (h : Says B w Q e w') (b : Bool) (hb : b = true ↔ Q) : e = .returned (.bool b) ∧ Below B w w' := by
  obtain ⟨⟨c, rfl, hc⟩, hB⟩ := h
  refine ⟨?_, hB⟩
  have : c = b := by cases b <;> cases c <;> simp_all
  rw [this]
def hp1 : Pr := ⟨⟨#[113]⟩, true, false, ⟨#[]⟩, V.zero⟩
def hp2 : Pr := ⟨⟨#[]⟩, false, true, ⟨#[]⟩, V.zero⟩
theorem hp1_chk : hp1.chk = 0 := pr_ok.2 ⟨by decide, by decide, .inl rfl⟩
theorem hp2_chk : hp2.chk = 0 := pr_ok.2 ⟨by decide, by decide, .inl rfl⟩
theorem hp1_text : hp1.text = ⟨#[0, 0, 0, 6, 4, 1, 0, 5, 1, 113]⟩ := by
  unfold Pr.text Pr.bytes
  rw [if_pos (show fl2 hp1 = 0 by rfl), List.append_nil]
  rfl
theorem hp2_bytes : hp2.bytes = [0, 0, 0, 4, 4, 1, 0, 2] := by
  unfold Pr.bytes
  rw [if_pos (show fl2 hp2 = 0 by rfl), List.append_nil]
  rfl
theorem hp2_got : pgO [0, 0, 0, 4, 4, 1, 0, 2] = some hp2 := by
  have h := pgO_got [0, 0, 0, 4, 4, 1, 0, 2]
  rw [← hp2_bytes] at h ⊢
  exact prGot_put zero_wf hp2_chk h
theorem nil_got : pgO [] = none := by
  have h := pgO_got []
  rcases ho : pgO [] with _ | p
  · rfl
  · rw [ho] at h
    have h1 : 0 < p.bytes.length := by unfold Pr.bytes; rw [List.length_append]; have := part_pos (body1 p); omega
    rw [h.2.2] at h1; simp at h1
theorem gotP_open {w : World} {o : Option Pr} {e : Ending} {w' : World} (h : GotP w o e w') : ∃ (key : ByteArray) (dur red : Bool) (mid : ByteArray) (uk un : Int) (us : ByteArray) (uka : Option Addr) (ukc : Nat) (ula : Option Addr) (ulc : Nat) (uks : List ByteArray) (ul : List VT),
    e = .returned (.tuple #[.agg #[.string key, .bool dur, .bool red, .string mid, .int .u8 uk, .int .u64 un, .string us, .slice uka uks.length ukc, .slice ula ul.length ulc], .int .i64 (prE o)]) ∧ (PT.mk key dur red mid (VT.mk uk un us (.slice uka uks.length ukc) (.slice ula ul.length ulc) uks ul)).p = prV o ∧ Rd (fun i => w.heap.size ≤ i) w' (VT.mk uk un us (.slice uka uks.length ukc) (.slice ula ul.length ulc) uks ul) ∧ Below w.heap.size w w' := by
  obtain ⟨⟨key, dur, red, mid, tv⟩, he, hp, hR, hB⟩ := h
  have hR : Rd _ _ tv := hR
  obtain ⟨uk, un, us, uka, ukc, ula, ulc, uks, ul, rfl, -⟩ := hR.open
  exact ⟨key, dur, red, mid, uk, un, us, uka, ukc, ula, ulc, uks, ul, he, hp, hR, hB⟩
theorem pr_parts {k m k2 m2 : ByteArray} {d r d2 r2 : Bool} {x : VT} {v : V} (h : (PT.mk k d r m x).p = ⟨k2, d2, r2, m2, v⟩) : k = k2 ∧ d = d2 ∧ r = r2 ∧ m = m2 ∧ x.v = v := by
  have h : Pr.mk _ _ _ _ _ = Pr.mk _ _ _ _ _ := h
  simpa only [Pr.mk.injEq] using h
end Go.Proofs.YtflglpbjapgciaaDoor

/- Chapter 09: how the laws' arguments are opened: properties. Conditions: none. Written by gen_prArgs.py. -/
namespace Go.Proofs.YtflglpbjapgciaaDoor
set_option linter.unusedSimpArgs false
set_option linter.unusedVariables false
open Go.ChangeShapes Go.WideShapes Go.ChangeAt Go.RowKit
set_option maxRecDepth 100000
section
variable {H : Type} {enc : TypeId × Value → H} {w : World} {base : Nat} {spare : Nat → Bool} {held : Bool}
def pEnc (t : PT) : List Value := [.string t.key, .bool t.dur, .bool t.red, .string t.mid, .int .u8 t.app.k, .int .u64 t.app.n, .string t.app.s, t.app.kv, t.app.lv]
/-- Properties that came in. -/
theorem open_prop (fuel : Nat) (cs : List Value) (y : DataW H × List MemPlace) (h : DataW.trod enc Tryd.prog w base spare held fuel 53 cs = some y) : ∃ t : PT, cs = pEnc t ∧ Rd (fun _ => True) w t.app := by
  obtain ⟨hl, n, rfl, g⟩ := struct_fields Tryd.underlying53 h
  have hc : Tryd.prog.cellsOf 53 = 9 := by kernel_rfl
  have c0 : Tryd.prog.cellsOf 51 = 5 := by kernel_rfl
  have c1 : Tryd.prog.cellsOf 4 = 1 := by kernel_rfl
  have c2 : Tryd.prog.cellsOf 9 = 1 := by kernel_rfl
  rw [hc] at hl
  match cs, hl with
  | [a0, a1, a2, a3, a4, a5, a6, a7, a8], _ =>
    obtain ⟨key, rfl, _⟩ := field_string Tryd.underlying9 c2 (o := 0) (c := a0) rfl (g 0 _ rfl)
    obtain ⟨dur, rfl⟩ := field_bool Tryd.underlying4 c1 (o := 1) (c := a1) rfl (g 1 _ rfl)
    obtain ⟨red, rfl⟩ := field_bool Tryd.underlying4 c1 (o := 2) (c := a2) rfl (g 2 _ rfl)
    obtain ⟨mid, rfl, _⟩ := field_string Tryd.underlying9 c2 (o := 3) (c := a3) rfl (g 3 _ rfl)
    obtain ⟨z4, h4⟩ := g 4 _ rfl
    have h4' : DataW.trod enc Tryd.prog w base spare held n 51 (([.string key, .bool dur, .bool red, .string mid, a4, a5, a6, a7, a8].drop 4).take (Tryd.prog.cellsOf 51)) = some z4 := h4
    rw [c0] at h4'
    simp only [List.drop_succ_cons, List.drop_zero, List.take_succ_cons, List.take_zero] at h4'
    obtain ⟨t, ht, hR⟩ := open_val n _ _ h4'
    refine ⟨.mk key dur red mid t, ?_, hR⟩
    show [_, _, _, _, a4, a5, a6, a7, a8] = [_, _, _, _] ++ vEnc t
    rw [← ht]; rfl
theorem open_props {b : Nat} {v : Value} {d : DataW H} {ps : List MemPlace} (hv : Value.okWide Tryd.prog w .any b 53 v) (h : DataW.Trod enc Tryd.prog w base spare held 53 v d ps) : ∃ t : PT, v = t.arg ∧ Rd (fun i => i < w.heap.size) w t.app := by
  obtain ⟨cs, rfl, hs⟩ := okWide_struct Tryd.underlying53 hv
  obtain ⟨n, hn⟩ := h
  obtain ⟨t, e, hR⟩ := open_prop n cs.toList _ (by simpa [Value.cells] using hn)
  refine ⟨t, ?_, hR.lt.weaken (fun i _ hi => hi.2)⟩
  unfold PT.arg
  congr 1
  rw [← Array.toList_inj, e]; rfl
end
end Go.Proofs.YtflglpbjapgciaaDoor
