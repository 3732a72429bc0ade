/- Chapter 09: how the laws' arguments are opened: properties. Conditions: none. Written by gen_prArgs.py. (Texts joined; the heads of the others stand below.) -/
import Derived.Test.YtogkbbnpkckfdaaDoorPrI
import Derived.Test.YtogkbbnpkckfdaaDoorPA
import Derived.Test.YtogkbbnpkckfdaaDoorKP

/- The head of chapter 09's laws; contracts as the laws use them. Conditions: utf8's tables are laid. Written by gen_prK.py. -/
namespace Go.Proofs.YtogkbbnpkckfdaaDoor
set_option linter.unusedSimpArgs false
set_option linter.unusedVariables false
open Go.RowKit
theorem says_yes {B : Nat} {w w' : World} {Q : Prop} {e : Ending} (h : Says B w Q e w') (q : Q) : e = .returned (.bool true) ∧ Below B w w' := by
  obtain ⟨⟨b, rfl, hb⟩, hB⟩ := h
  exact ⟨by rw [hb.2 q], hB⟩
theorem says_not {B : Nat} {w w' : World} {Q : Prop} {e : Ending} (h : Says B w Q e w') (q : ¬ Q) : e = .returned (.bool false) ∧ Below B w w' := by
  obtain ⟨⟨b, rfl, hb⟩, hB⟩ := h
  cases b with
  | false => exact ⟨rfl, hB⟩
  | true => exact absurd (hb.1 rfl) q
theorem says_dec {B : Nat} {w w' : World} {Q : Prop} {e : Ending} (h : Says B w Q e w') (b : Bool) (hb : b = true ↔ Q) : e = .returned (.bool b) ∧ Below B w w' := by
  obtain ⟨⟨c, rfl, hc⟩, hB⟩ := h
  refine ⟨?_, hB⟩
  have : c = b := by cases b <;> cases c <;> simp_all
  rw [this]
def hp1 : Pr := ⟨⟨#[113]⟩, true, false, ⟨#[]⟩, V.zero⟩
def hp2 : Pr := ⟨⟨#[]⟩, false, true, ⟨#[]⟩, V.zero⟩
theorem hp1_chk : hp1.chk = 0 := pr_ok.2 ⟨by decide, by decide, .inl rfl⟩
theorem hp2_chk : hp2.chk = 0 := pr_ok.2 ⟨by decide, by decide, .inl rfl⟩
theorem hp1_text : hp1.text = ⟨#[0, 0, 0, 6, 4, 1, 0, 5, 1, 113]⟩ := by
  unfold Pr.text Pr.bytes
  rw [if_pos (show fl2 hp1 = 0 by rfl), List.append_nil]
  rfl
theorem hp2_bytes : hp2.bytes = [0, 0, 0, 4, 4, 1, 0, 2] := by
  unfold Pr.bytes
  rw [if_pos (show fl2 hp2 = 0 by rfl), List.append_nil]
  rfl
theorem hp2_got : pgO [0, 0, 0, 4, 4, 1, 0, 2] = some hp2 := by
  have h := pgO_got [0, 0, 0, 4, 4, 1, 0, 2]
  rw [← hp2_bytes] at h ⊢
  exact prGot_put zero_wf hp2_chk h
theorem nil_got : pgO [] = none := by
  have h := pgO_got []
  rcases ho : pgO [] with _ | p
  · rfl
  · rw [ho] at h
    have h1 : 0 < p.bytes.length := by unfold Pr.bytes; rw [List.length_append]; have := part_pos (body1 p); omega
    rw [h.2.2] at h1; simp at h1
theorem gotP_open {w : World} {o : Option Pr} {e : Ending} {w' : World} (h : GotP w o e w') : ∃ (key : ByteArray) (dur red : Bool) (mid : ByteArray) (uk un : Int) (us : ByteArray) (uka : Option Addr) (ukc : Nat) (ula : Option Addr) (ulc : Nat) (uks : List ByteArray) (ul : List VT),
    e = .returned (.tuple #[.agg #[.string key, .bool dur, .bool red, .string mid, .int .u8 uk, .int .u64 un, .string us, .slice uka uks.length ukc, .slice ula ul.length ulc], .int .i64 (prE o)]) ∧ (PT.mk key dur red mid (VT.mk uk un us (.slice uka uks.length ukc) (.slice ula ul.length ulc) uks ul)).p = prV o ∧ Rd (fun i => w.heap.size ≤ i) w' (VT.mk uk un us (.slice uka uks.length ukc) (.slice ula ul.length ulc) uks ul) ∧ Below w.heap.size w w' := by
  obtain ⟨⟨key, dur, red, mid, tv⟩, he, hp, hR, hB⟩ := h
  have hR : Rd _ _ tv := hR
  obtain ⟨uk, un, us, uka, ukc, ula, ulc, uks, ul, rfl, -⟩ := hR.open
  exact ⟨key, dur, red, mid, uk, un, us, uka, ukc, ula, ulc, uks, ul, he, hp, hR, hB⟩
theorem pr_parts {k m k2 m2 : ByteArray} {d r d2 r2 : Bool} {x : VT} {v : V} (h : (PT.mk k d r m x).p = ⟨k2, d2, r2, m2, v⟩) : k = k2 ∧ d = d2 ∧ r = r2 ∧ m = m2 ∧ x.v = v := by
  have h : Pr.mk _ _ _ _ _ = Pr.mk _ _ _ _ _ := h
  simpa only [Pr.mk.injEq] using h
set_option maxRecDepth 100000 in
set_option maxHeartbeats 6400000 in
theorem head9_any (w : World) (hT : Tb w) : Calls Tryd.prog 9 #[] w fun e w' => e = .returned (.bool true) ∧ Below w.heap.size w w' := by
  have hput := p9put_any (PT.mk ⟨#[113]⟩ true false ⟨#[]⟩ (VT.mk 0 0 ⟨#[]⟩ (.slice none 0 0) (.slice none 0 0) [] [])) (fun _ => True) w zt_rd hT
  have hz : (PT.mk ⟨#[113]⟩ true false ⟨#[]⟩ (VT.mk 0 0 ⟨#[]⟩ (.slice none 0 0) (.slice none 0 0) [] [])).p = hp1 := by show Pr.mk _ _ _ _ _ = _; rw [show VT.v (VT.mk 0 0 ⟨#[]⟩ (.slice none 0 0) (.slice none 0 0) [] []) = V.zero from VT.zero_v]; rfl
  rw [hz, hp1_chk, if_pos rfl, hp1_text, PT.arg_mk] at hput
  have hg1 := fun (u : World) (hu : Tb u) => p9get_any u ⟨#[0, 0, 0, 4, 4, 1, 0, 2]⟩ (by decide) hu
  have hg2 := fun (u : World) (hu : Tb u) => p9get_any u ⟨#[]⟩ (by decide) hu
  rw [show (⟨#[0, 0, 0, 4, 4, 1, 0, 2]⟩ : ByteArray).data.toList = [0, 0, 0, 4, 4, 1, 0, 2] from rfl, hp2_got] at hg1
  rw [show (⟨#[]⟩ : ByteArray).data.toList = [] from rfl, nil_got] at hg2
  have hputh := Lib.hid hput; have hg1h := Lib.hid hg1; have hg2h := Lib.hid hg2
  have zi := zero_info
  clear hput hg1 hg2 hz
  go_enter Tryd.func9, Tryd.ntmps9
  go_wp2_with (first | (go_at_call 11; refine (hputh.out).mono ?_; rintro e w1 ⟨rfl, hT1⟩) | (go_at_call 15; (with_reducible refine (hg1h.out w1 (hT.pure hT1)).mono ?_); rintro e w2 hg; obtain ⟨key, dur, red, mid, uk, un, us, uka, ukc, ula, ulc, uks, ul, rfl, hp, -, hB2⟩ := gotP_open hg; obtain ⟨rfl, rfl, rfl, rfl, -⟩ := pr_parts hp; clear hg hp; have hT2 := hT1.trans (hB2.mono hT1.size); have hA3 := (Below.refl w2.heap.size w2).alloc (Nat.le_refl _) (.cells #[.string ⟨#[]⟩, .bool false, .bool true, .string ⟨#[]⟩, .int .u8 uk, .int .u64 un, .string us, .slice uka uks.length ukc, .slice ula ul.length ulc] 29); have hT3 := hT2.trans (hA3.mono hT2.size); have Q3 := Blk.new w2 [.string ⟨#[]⟩, .bool false, .bool true, .string ⟨#[]⟩, .int .u8 uk, .int .u64 un, .string us, .slice uka uks.length ukc, .slice ula ul.length ulc] 29) | (go_at_call 15; (with_reducible refine (hg2h.out _ (hT.pure hT3)).mono ?_); rintro e w4 hg; obtain ⟨key, dur, red, mid, xk, xn, xs, xka, xkc, xla, xlc, xks, xl, rfl, hp, -, hB4⟩ := gotP_open hg; obtain ⟨rfl, rfl, rfl, rfl, -⟩ := pr_parts hp; clear hg hp; have hT4 := hT3.trans (hB4.mono hT3.size); have Q4 := Q3.pure hB4; have hA5 := (Below.refl w4.heap.size w4).alloc (Nat.le_refl _) (.cells #[.string ⟨#[]⟩, .bool false, .bool false, .string ⟨#[]⟩, .int .u8 xk, .int .u64 xn, .string xs, .slice xka xks.length xkc, .slice xla xl.length xlc] 29); have hT5 := hT4.trans (hA5.mono hT4.size); have Q5 := Q4.pure hA5; have q1 := Q5.at 1 rfl; have q2 := Q5.at 2 rfl))
  go_ret
  exact ⟨rfl, hT5⟩
end Go.Proofs.YtogkbbnpkckfdaaDoor

/- Chapter 09: how the laws' arguments are opened: properties. Conditions: none. Written by gen_prArgs.py. -/
namespace Go.Proofs.YtogkbbnpkckfdaaDoor
set_option linter.unusedSimpArgs false
set_option linter.unusedVariables false
open Go.ChangeShapes Go.WideShapes Go.ChangeAt Go.RowKit
set_option maxRecDepth 100000
section
variable {H : Type} {enc : TypeId × Value → H} {w : World} {base : Nat} {spare : Nat → Bool} {held : Bool}
def pEnc (t : PT) : List Value := [.string t.key, .bool t.dur, .bool t.red, .string t.mid, .int .u8 t.app.k, .int .u64 t.app.n, .string t.app.s, t.app.kv, t.app.lv]
/-- Properties that came in. -/
theorem open_prop (fuel : Nat) (cs : List Value) (y : DataW H × List MemPlace) (h : DataW.trod enc Tryd.prog w base spare held fuel 29 cs = some y) : ∃ t : PT, cs = pEnc t ∧ Rd (fun _ => True) w t.app := by
  obtain ⟨hl, n, rfl, g⟩ := struct_fields Tryd.underlying29 h
  have hc : Tryd.prog.cellsOf 29 = 9 := by kernel_rfl
  have c0 : Tryd.prog.cellsOf 27 = 5 := by kernel_rfl
  have c1 : Tryd.prog.cellsOf 4 = 1 := by kernel_rfl
  have c2 : Tryd.prog.cellsOf 9 = 1 := by kernel_rfl
  rw [hc] at hl
  match cs, hl with
  | [a0, a1, a2, a3, a4, a5, a6, a7, a8], _ =>
    obtain ⟨key, rfl, _⟩ := field_string Tryd.underlying9 c2 (o := 0) (c := a0) rfl (g 0 _ rfl)
    obtain ⟨dur, rfl⟩ := field_bool Tryd.underlying4 c1 (o := 1) (c := a1) rfl (g 1 _ rfl)
    obtain ⟨red, rfl⟩ := field_bool Tryd.underlying4 c1 (o := 2) (c := a2) rfl (g 2 _ rfl)
    obtain ⟨mid, rfl, _⟩ := field_string Tryd.underlying9 c2 (o := 3) (c := a3) rfl (g 3 _ rfl)
    obtain ⟨z4, h4⟩ := g 4 _ rfl
    have h4' : DataW.trod enc Tryd.prog w base spare held n 27 (([.string key, .bool dur, .bool red, .string mid, a4, a5, a6, a7, a8].drop 4).take (Tryd.prog.cellsOf 27)) = some z4 := h4
    rw [c0] at h4'
    simp only [List.drop_succ_cons, List.drop_zero, List.take_succ_cons, List.take_zero] at h4'
    obtain ⟨t, ht, hR⟩ := open_val n _ _ h4'
    refine ⟨.mk key dur red mid t, ?_, hR⟩
    show [_, _, _, _, a4, a5, a6, a7, a8] = [_, _, _, _] ++ vEnc t
    rw [← ht]; rfl
theorem open_props {b : Nat} {v : Value} {d : DataW H} {ps : List MemPlace} (hv : Value.okWide Tryd.prog w .any b 29 v) (h : DataW.Trod enc Tryd.prog w base spare held 29 v d ps) : ∃ t : PT, v = t.arg ∧ Rd (fun i => i < w.heap.size) w t.app := by
  obtain ⟨cs, rfl, hs⟩ := okWide_struct Tryd.underlying29 hv
  obtain ⟨n, hn⟩ := h
  obtain ⟨t, e, hR⟩ := open_prop n cs.toList _ (by simpa [Value.cells] using hn)
  refine ⟨t, ?_, hR.lt.weaken (fun i _ hi => hi.2)⟩
  unfold PT.arg
  congr 1
  rw [← Array.toList_inj, e]; rfl
end
end Go.Proofs.YtogkbbnpkckfdaaDoor
