/- The head of chapter 13's laws. Conditions: utf8's tables are laid. Written by gen_enK.py. (Texts joined.) -/
import Derived.Test.YtflglpbjapgciaaGreatDoorPK
import Derived.Test.YtflglpbjapgciaaGreatDoorEA
import Derived.Test.YtflglpbjapgciaaGreatDoorEU

namespace Go.Proofs.YtflglpbjapgciaaGreatDoor
set_option linter.unusedSimpArgs false
set_option linter.unusedVariables false
open Go.ChangeShapes Go.WideShapes Go.ChangeAt Go.RowKit
set_option maxRecDepth 100000
/-- What is read lies in memory. -/
theorem EnRd.low {P : Nat → Prop} {w : World} {t : EnT} (h : EnRd P w t) : EnRd (fun i => i < w.heap.size) w t :=
  ⟨h.p, fun k e n => (slc_lt ptEnc_len (by omega) h.p n k e), fun x hx => (h.r x hx).lt.weaken (fun i _ hi => hi.2), h.s, fun k e n => (slc_lt rfEnc_len (by omega) h.s n k e), h.wf⟩
section
variable {H : Type} {enc : TypeId × Value → H} {w : World} {base : Nat} {spare : Nat → Bool} {held : Bool}
theorem bounds_u64 {m : Int} (h : (Lit.int .u64 m).wf = true) : 0 ≤ m ∧ m < 18446744073709551616 := by
  simp [Lit.wf, IntKind.min, IntKind.max, IntKind.signed, IntKind.bits] at h
  omega
theorem bounds_u32 {m : Int} (h : (Lit.int .u32 m).wf = true) : 0 ≤ m ∧ m < 4294967296 := by
  simp [Lit.wf, IntKind.min, IntKind.max, IntKind.signed, IntKind.bits] at h
  omega
/-- A put that came in. -/
theorem open_put (fuel : Nat) (cs : List Value) (y : DataW H × List MemPlace) (h : DataW.trod enc Tryz.prog w base spare held fuel 64 cs = some y) : ∃ t : PtT, cs = ptEnc t ∧ (0 ≤ t.id ∧ t.id < 18446744073709551616) ∧ Rd (fun _ => True) w t.pr.app := by
  obtain ⟨hl, n, rfl, g⟩ := struct_fields Tryz.underlying64 h
  have hc : Tryz.prog.cellsOf 64 = 12 := by kernel_rfl
  have c0 : Tryz.prog.cellsOf 62 = 9 := by kernel_rfl
  have c1 : Tryz.prog.cellsOf 22 = 1 := by kernel_rfl
  have c2 : Tryz.prog.cellsOf 9 = 1 := by kernel_rfl
  rw [hc] at hl
  match cs, hl with
  | [a0, a1, a2, a3, a4, a5, a6, a7, a8, a9, a10, a11], _ =>
    obtain ⟨q, rfl, _⟩ := field_string Tryz.underlying9 c2 (o := 0) (c := a0) rfl (g 0 _ rfl)
    obtain ⟨id, rfl, wi⟩ := field_int Tryz.underlying22 c1 (o := 1) (c := a1) rfl (g 1 _ rfl)
    obtain ⟨body, rfl, _⟩ := field_string Tryz.underlying9 c2 (o := 11) (c := a11) rfl (g 3 _ rfl)
    obtain ⟨z2, h2⟩ := g 2 _ rfl
    have h2' : DataW.trod enc Tryz.prog w base spare held n 62 (([.string q, .int .u64 id, a2, a3, a4, a5, a6, a7, a8, a9, a10, .string body].drop 2).take (Tryz.prog.cellsOf 62)) = some z2 := h2
    rw [c0] at h2'
    simp only [List.drop_succ_cons, List.drop_zero, List.take_succ_cons, List.take_zero] at h2'
    obtain ⟨t, ht, hR⟩ := open_prop n _ _ h2'
    refine ⟨⟨q, id, t, body⟩, ?_, bounds_u64 wi, hR⟩
    unfold pEnc at ht
    injection ht with e2 ht; injection ht with e3 ht; injection ht with e4 ht; injection ht with e5 ht; injection ht with e6 ht; injection ht with e7 ht; injection ht with e8 ht; injection ht with e9 ht; injection ht with e10 ht
    subst e2; subst e3; subst e4; subst e5; subst e6; subst e7; subst e8; subst e9; subst e10
    rfl
/-- A message's name that came in. -/
theorem open_ref (fuel : Nat) (cs : List Value) (y : DataW H × List MemPlace) (h : DataW.trod enc Tryz.prog w base spare held fuel 47 cs = some y) : ∃ r : Rf, cs = rfEnc r ∧ (0 ≤ r.id ∧ r.id < 18446744073709551616) := by
  obtain ⟨hl, n, rfl, g⟩ := struct_fields Tryz.underlying47 h
  have hc : Tryz.prog.cellsOf 47 = 2 := by kernel_rfl
  have c1 : Tryz.prog.cellsOf 22 = 1 := by kernel_rfl
  have c2 : Tryz.prog.cellsOf 9 = 1 := by kernel_rfl
  rw [hc] at hl
  match cs, hl with
  | [a0, a1], _ =>
    obtain ⟨q, rfl, _⟩ := field_string Tryz.underlying9 c2 (o := 0) (c := a0) rfl (g 0 _ rfl)
    obtain ⟨id, rfl, wi⟩ := field_int Tryz.underlying22 c1 (o := 1) (c := a1) rfl (g 1 _ rfl)
    exact ⟨⟨q, id⟩, rfl, bounds_u64 wi⟩
/-- A name of a branch that came in. -/
theorem open_xidc (fuel : Nat) (cs : List Value) (y : DataW H × List MemPlace) (h : DataW.trod enc Tryz.prog w base spare held fuel 25 cs = some y) : ∃ (xf : Int) (xg xb : ByteArray), cs = [.int .u32 xf, .string xg, .string xb] ∧ (0 ≤ xf ∧ xf < 4294967296) := by
  obtain ⟨hl, n, rfl, g⟩ := struct_fields Tryz.underlying25 h
  have hc : Tryz.prog.cellsOf 25 = 3 := by kernel_rfl
  have c1 : Tryz.prog.cellsOf 23 = 1 := by kernel_rfl
  have c2 : Tryz.prog.cellsOf 9 = 1 := by kernel_rfl
  rw [hc] at hl
  match cs, hl with
  | [a0, a1, a2], _ =>
    obtain ⟨xf, rfl, wi⟩ := field_int Tryz.underlying23 c1 (o := 0) (c := a0) rfl (g 0 _ rfl)
    obtain ⟨xg, rfl, _⟩ := field_string Tryz.underlying9 c2 (o := 1) (c := a1) rfl (g 1 _ rfl)
    obtain ⟨xb, rfl, _⟩ := field_string Tryz.underlying9 c2 (o := 2) (c := a2) rfl (g 2 _ rfl)
    exact ⟨xf, xg, xb, rfl, bounds_u32 wi⟩
/-- An entry that came in, cell by cell. -/
theorem open_en (fuel : Nat) (cs : List Value) (y : DataW H × List MemPlace) (h : DataW.trod enc Tryz.prog w base spare held fuel 29 cs = some y) : ∃ t : EnT, t.arg = .agg cs.toArray ∧ EnRd (fun _ => True) w t := by
  obtain ⟨hl, n, rfl, g⟩ := struct_fields Tryz.underlying29 h
  have hc : Tryz.prog.cellsOf 29 = 8 := by kernel_rfl
  have c0 : Tryz.prog.cellsOf 5 = 1 := by kernel_rfl
  have c1 : Tryz.prog.cellsOf 22 = 1 := by kernel_rfl
  have c2 : Tryz.prog.cellsOf 9 = 1 := by kernel_rfl
  have c3 : Tryz.prog.cellsOf 25 = 3 := by kernel_rfl
  have c4 : Tryz.prog.cellsOf 26 = 1 := by kernel_rfl
  have c5 : Tryz.prog.cellsOf 27 = 1 := by kernel_rfl
  have cp : Tryz.prog.cellsOf 64 = 12 := by kernel_rfl
  have cr : Tryz.prog.cellsOf 47 = 2 := by kernel_rfl
  rw [hc] at hl
  match cs, hl with
  | [a0, a1, a2, a3, a4, a5, a6, a7], _ =>
    obtain ⟨k, rfl, wk⟩ := field_int Tryz.underlying5 c0 (o := 0) (c := a0) rfl (g 0 _ rfl)
    obtain ⟨nm, rfl, _⟩ := field_string Tryz.underlying9 c2 (o := 1) (c := a1) rfl (g 1 _ rfl)
    obtain ⟨m, rfl, wm⟩ := field_int Tryz.underlying22 c1 (o := 2) (c := a2) rfl (g 2 _ rfl)
    obtain ⟨z3, h3⟩ := g 3 _ rfl
    have h3' : DataW.trod enc Tryz.prog w base spare held n 25 (([.int .u8 k, .string nm, .int .u64 m, a3, a4, a5, a6, a7].drop 3).take (Tryz.prog.cellsOf 25)) = some z3 := h3
    rw [c3] at h3'
    simp only [List.drop_succ_cons, List.drop_zero, List.take_succ_cons, List.take_zero] at h3'
    obtain ⟨z4, h4⟩ := g 4 _ rfl
    have h4' : DataW.trod enc Tryz.prog w base spare held n 26 (([.int .u8 k, .string nm, .int .u64 m, a3, a4, a5, a6, a7].drop 6).take (Tryz.prog.cellsOf 26)) = some z4 := h4
    rw [c4] at h4'
    simp only [List.drop_succ_cons, List.drop_zero, List.take_succ_cons, List.take_zero] at h4'
    obtain ⟨z5, h5⟩ := g 5 _ rfl
    have h5' : DataW.trod enc Tryz.prog w base spare held n 27 (([.int .u8 k, .string nm, .int .u64 m, a3, a4, a5, a6, a7].drop 7).take (Tryz.prog.cellsOf 27)) = some z5 := h5
    rw [c5] at h5'
    simp only [List.drop_succ_cons, List.drop_zero, List.take_succ_cons, List.take_zero] at h5'
    obtain ⟨xf, xg, xb, hx, wx⟩ := open_xidc n _ _ h3'
    injection hx with e3 hx; injection hx with e4 hx; injection hx with e5 hx
    subst e3; subst e4; subst e5
    obtain ⟨P, hP, wP⟩ := open_slcF (ρ := ptEnc) (Wf := fun t => (0 ≤ t.id ∧ t.id < 18446744073709551616) ∧ Rd (fun _ => True) w t.pr.app) (m := 12) Tryz.underlying26 cp (by omega) (fun n cs y _ hy => open_put n cs y hy) (slice_shape Tryz.underlying26 h4') h4'
    obtain ⟨T, hT, wT⟩ := open_slcF (ρ := rfEnc) (Wf := fun r => 0 ≤ r.id ∧ r.id < 18446744073709551616) (m := 2) Tryz.underlying27 cr (by omega) (fun n cs y _ hy => open_ref n cs y hy) (slice_shape Tryz.underlying27 h5') h5'
    have bk := bounds_u8 wk
    have bm := bounds_u64 wm
    refine ⟨.mk k nm m (xf, xg, xb) a6 a7 P T, rfl, hP, fun _ _ _ => trivial, fun x hx => (wP x hx).2, hT, fun _ _ _ => trivial, ⟨bk.1, by have := bk.2; show k < 256; omega, bm.1, bm.2, wx.1, wx.2, fun p hp => by obtain ⟨x, hx, rfl⟩ := List.mem_map.1 hp; exact ⟨(wP x hx).1.1, (wP x hx).1.2, (wP x hx).2.wf⟩, fun r hr => wT r hr⟩⟩
/-- An entry that came in. -/
theorem open_entry {b : Nat} {v : Value} {d : DataW H} {ps : List MemPlace} (hv : Value.okWide Tryz.prog w .any b 29 v) (h : DataW.Trod enc Tryz.prog w base spare held 29 v d ps) : ∃ t : EnT, v = t.arg ∧ EnRd (fun i => i < w.heap.size) w t := by
  obtain ⟨cs, rfl, hs⟩ := okWide_struct Tryz.underlying29 hv
  obtain ⟨n, hn⟩ := h
  obtain ⟨t, e, hR⟩ := open_en n cs.toList _ (by simpa [Value.cells] using hn)
  exact ⟨t, by rw [e], hR.low⟩
end
end Go.Proofs.YtflglpbjapgciaaGreatDoor

namespace Go.Proofs.YtflglpbjapgciaaGreatDoor
set_option linter.unusedSimpArgs false
set_option linter.unusedVariables false
open Go.RowKit
theorem en0_rd {P : Nat → Prop} {w : World} (k : Int) (nm : ByteArray) (n : Int) (h0 : 0 ≤ k) (h1 : k < 256) (h2 : 0 ≤ n) (h3 : n < 18446744073709551616) : EnRd P w (EnT.mk k nm n (0, ⟨#[]⟩, ⟨#[]⟩) (.slice none 0 0) (.slice none 0 0) [] []) :=
  ⟨Slc.nil _ _ _, (fun k e => by cases e), (fun x hx => absurd hx (by simp)), Slc.nil _ _ _, (fun k e => by cases e), ⟨h0, h1, h2, h3, (by show (0 : Int) ≤ 0; omega), (by show (0 : Int) < 4294967296; omega), (fun p hp => absurd hp (by simp [EnT.e])), (fun p hp => absurd hp (by simp [EnT.e]))⟩⟩
def he1 : En := ⟨1, ⟨#[113]⟩, 9, (0, ⟨#[]⟩, ⟨#[]⟩), [], []⟩
def he2 : En := ⟨6, ⟨#[]⟩, 0, (7, ⟨#[97]⟩, ⟨#[]⟩), [], []⟩
def he3 : En := ⟨1, ⟨#[113]⟩, 0, (0, ⟨#[]⟩, ⟨#[]⟩), [], []⟩
theorem he1_chk : he1.chk = 0 := en_ok.2 (by decide)
theorem he2_chk : he2.chk = 0 := en_ok.2 (by decide)
theorem he3_chk : he3.chk = 130 := by unfold En.chk; rw [if_neg (by decide)]
theorem he1_text : he1.text = ⟨#[1, 1, 113, 0, 0, 0, 0, 0, 0, 0, 9]⟩ := by
  unfold En.text
  rw [show he1.bytes = [1, 1, 113, 0, 0, 0, 0, 0, 0, 0, 9] by decide]
theorem he2_bytes : he2.bytes = [6, 0, 0, 0, 7, 1, 97, 0] := by decide
theorem he2_got : egO [6, 0, 0, 0, 7, 1, 97, 0] = some he2 := by
  rw [← he2_bytes]
  refine egO_bytes ⟨?_, ?_, ?_, ?_, ?_, ?_, ?_, ?_⟩ he2_chk
  · show (0 : Int) ≤ 6; omega
  · show (6 : Int) < 256; omega
  · show (0 : Int) ≤ 0; omega
  · show (0 : Int) < 18446744073709551616; omega
  · show (0 : Int) ≤ 7; omega
  · show (7 : Int) < 4294967296; omega
  · intro p hp; exact absurd hp (by simp [he2])
  · intro p hp; exact absurd hp (by simp [he2])
theorem gotE_open {w : World} {o : Option En} {e : Ending} {w' : World} (h : GotE w o e w') : ∃ (kind : Int) (name : ByteArray) (n xf : Int) (xg xb : ByteArray) (pa : Option Addr) (pc : Nat) (ta : Option Addr) (tc : Nat) (puts : List PtT) (takes : List Rf),
    e = .returned (.tuple #[.agg #[.int .u8 kind, .string name, .int .u64 n, .int .u32 xf, .string xg, .string xb, .slice pa puts.length pc, .slice ta takes.length tc], .int .i64 (enE o)]) ∧ (EnT.mk kind name n (xf, xg, xb) (.slice pa puts.length pc) (.slice ta takes.length tc) puts takes).e = enV o ∧ EnRd (fun i => w.heap.size ≤ i) w' (EnT.mk kind name n (xf, xg, xb) (.slice pa puts.length pc) (.slice ta takes.length tc) puts takes) ∧ Below w.heap.size w w' := by
  obtain ⟨t, he, hp, hR, hB⟩ := h
  obtain ⟨kind, name, n, xf, xg, xb, pa, pc, ta, tc, puts, takes, rfl, -⟩ := hR.open
  exact ⟨kind, name, n, xf, xg, xb, pa, pc, ta, tc, puts, takes, he, hp, hR, hB⟩
theorem en_parts {k n xf : Int} {nm xg xb : ByteArray} {pv tv : Value} {puts : List PtT} {takes : List Rf} {q : En} (h : (EnT.mk k nm n (xf, xg, xb) pv tv puts takes).e = q) : k = q.kind ∧ nm = q.name ∧ n = q.n ∧ xf = q.x.1 ∧ xg = q.x.2.1 ∧ xb = q.x.2.2 := by
  subst h; exact ⟨rfl, rfl, rfl, rfl, rfl, rfl⟩
set_option maxRecDepth 100000 in
set_option maxHeartbeats 6400000 in
theorem head13_any (w : World) (hT : Tb w) : Calls Tryz.prog 6 #[] w fun e w' => e = .returned (.bool true) ∧ Below w.heap.size w w' := by
  have hput := eput_any (EnT.mk 1 ⟨#[113]⟩ 9 (0, ⟨#[]⟩, ⟨#[]⟩) (.slice none 0 0) (.slice none 0 0) [] []) (fun _ => True) w (en0_rd 1 _ 9 (by omega) (by omega) (by omega) (by omega)) hT
  rw [show (EnT.mk 1 ⟨#[113]⟩ 9 (0, ⟨#[]⟩, ⟨#[]⟩) (.slice none 0 0) (.slice none 0 0) [] []).e = he1 from rfl, he1_chk, if_pos rfl, he1_text, EnT.arg_mk] at hput
  have hget := fun (u : World) (hu : Tb u) => eget_any u ⟨#[6, 0, 0, 0, 7, 1, 97, 0]⟩ (by decide) hu
  rw [show (⟨#[6, 0, 0, 0, 7, 1, 97, 0]⟩ : ByteArray).data.toList = [6, 0, 0, 0, 7, 1, 97, 0] from rfl, he2_got] at hget
  have hchk := fun (u : World) (hu : Tb u) => echeck_any (EnT.mk 1 ⟨#[113]⟩ 0 (0, ⟨#[]⟩, ⟨#[]⟩) (.slice none 0 0) (.slice none 0 0) [] []) (fun _ => True) u (en0_rd 1 _ 0 (by omega) (by omega) (by omega) (by omega)) hu
  simp only [show (EnT.mk 1 ⟨#[113]⟩ 0 (0, ⟨#[]⟩, ⟨#[]⟩) (.slice none 0 0) (.slice none 0 0) [] []).e = he3 from rfl, he3_chk, EnT.arg_mk] at hchk
  have hq1 := fun (u : World) => qname_any u ⟨#[113]⟩
  have hq2 := fun (u : World) => qname_any u ⟨#[97, 32, 98]⟩
  simp only [show qn ⟨#[113]⟩ = true by decide] at hq1
  simp only [show qn ⟨#[97, 32, 98]⟩ = false by decide] at hq2
  have qX := fun (u : World) => (xid_eql u 7 7 ⟨#[97]⟩ ⟨#[]⟩ ⟨#[97]⟩ ⟨#[]⟩).trans (show _ = Result.ok (.bool true) u by rw [bz, show ((⟨#[97]⟩ : ByteArray) == ⟨#[97]⟩) = true by rw [beq_toListBytes, beq_self_eq_true]]; rfl)
  have hputh := Lib.hid hput; have hgeth := Lib.hid hget; have hchkh := Lib.hid hchk; have hq1h := Lib.hid hq1; have hq2h := Lib.hid hq2
  have zi := entry_info; have zx := xid_info
  clear hput hget hchk hq1 hq2
  go_enter Tryz.func6, Tryz.ntmps6
  go_wp2_with (first | (go_at_call 8; (with_reducible refine (hputh.out).mono ?_); rintro e w1 ⟨rfl, hT1⟩) | (go_at_call 12; (with_reducible refine (hgeth.out w1 (hT.pure hT1)).mono ?_); rintro e w2 hg; obtain ⟨kind, name, n, xf, xg, xb, pa, pc, ta, tc, puts, takes, rfl, hp, -, hB2⟩ := gotE_open hg; obtain ⟨rfl, rfl, rfl, rfl, rfl, rfl⟩ : kind = 6 ∧ name = ⟨#[]⟩ ∧ n = 0 ∧ xf = 7 ∧ xg = ⟨#[97]⟩ ∧ xb = ⟨#[]⟩ := en_parts hp; clear hg hp; have hT2 := hT1.trans (hB2.mono hT1.size); have hA3 := (Below.refl w2.heap.size w2).alloc (Nat.le_refl _) (.cells #[.int .u8 6, .string ⟨#[]⟩, .int .u64 0, .int .u32 7, .string ⟨#[97]⟩, .string ⟨#[]⟩, .slice pa puts.length pc, .slice ta takes.length tc] 29); have hT3 := hT2.trans (hA3.mono hT2.size); have Q3 := Blk.new w2 [.int .u8 6, .string ⟨#[]⟩, .int .u64 0, .int .u32 7, .string ⟨#[97]⟩, .string ⟨#[]⟩, .slice pa puts.length pc, .slice ta takes.length tc] 29) | (go_at_call 10; (with_reducible refine (hchkh.out _ (hT.pure hT3)).mono ?_); rintro e w4 ⟨rfl, hB4⟩; have hT4 := hT3.trans (hB4.mono hT3.size); have Q4 := Q3.pure hB4; have c0 := Q4.at 0 rfl; have c1 := Q4.at 1 rfl; have c2 := Q4.at 2 rfl; have c3 := Q4.at 3 rfl; have c4 := Q4.at 4 rfl; have c5 := Q4.at 5 rfl; have c6 := Q4.at 6 rfl; have c7 := Q4.at 7 rfl) | (go_at_call 15; (with_reducible refine (hq1h.out _).mono ?_); rintro e w5 ⟨rfl, hB5⟩; have hT5 := hT4.trans (hB5.mono hT4.size)) | (go_at_call 15; (with_reducible refine (hq2h.out _).mono ?_); rintro e w6 ⟨rfl, hB6⟩; have hT6 := hT5.trans (hB6.mono hT5.size)))
  go_ret
  exact ⟨rfl, hT6⟩
end Go.Proofs.YtflglpbjapgciaaGreatDoor
