/- The head of chapter 13's laws. Conditions: utf8's tables are laid. Written by gen_enK.py. (Texts joined.) -/
import Derived.Test.YtflglpbjapgciaaGreatDoorPK
import Derived.Test.YtflglpbjapgciaaGreatDoorEA
import Derived.Test.YtflglpbjapgciaaGreatDoorEU
set_option linter.unusedSimpArgs false
set_option linter.unusedVariables false
namespace Go.Proofs.YtflglpbjapgciaaGreatDoor
open Go.ChangeShapes Go.WideShapes Go.ChangeAt Go.RowKit
set_option maxRecDepth 100000
section
variable {H : Type} {enc : TypeId × Value → H} {w : World} {base : Nat} {spare : Nat → Bool} {held : Bool}
end
end Go.Proofs.YtflglpbjapgciaaGreatDoor
namespace Go.Proofs.YtflglpbjapgciaaGreatDoor
open Go.RowKit
theorem en0_rd {P : Nat → Prop} {w : World} (k : Int) (nm : ByteArray) (n : Int) (h0 : 0 ≤ k) (h1 : k < 256) (h2 : 0 ≤ n) (h3 : n < 18446744073709551616) : EnRd P w (EnT.mk k nm n (0, ⟨#[]⟩, ⟨#[]⟩) (.slice none 0 0) (.slice none 0 0) [] []) :=
  ⟨Slc.nil _ _ _, (fun k e => by cases e), (fun x hx => absurd hx (by simp)), Slc.nil _ _ _, (fun k e => by cases e), ⟨h0, h1, h2, h3, (by show (0 : Int) ≤ 0; omega), (by show (0 : Int) < 4294967296; omega), (fun p hp => absurd hp (by simp [EnT.e])), (fun p hp => absurd hp (by simp [EnT.e]))⟩⟩
def he1 : En := ⟨1, ⟨#[113]⟩, 9, (0, ⟨#[]⟩, ⟨#[]⟩), [], []⟩
def he2 : En := ⟨6, ⟨#[]⟩, 0, (7, ⟨#[97]⟩, ⟨#[]⟩), [], []⟩
def he3 : En := ⟨1, ⟨#[113]⟩, 0, (0, ⟨#[]⟩, ⟨#[]⟩), [], []⟩
theorem he1_chk : he1.chk = 0 := en_ok.2 (by decide)
theorem he2_chk : he2.chk = 0 := en_ok.2 (by decide)
theorem he3_chk : he3.chk = 130 := by unfold En.chk; rw [if_neg (by decide)]
theorem he1_text : he1.text = ⟨#[1, 1, 113, 0, 0, 0, 0, 0, 0, 0, 9]⟩ := by
  unfold En.text; rw [show he1.bytes = [1, 1, 113, 0, 0, 0, 0, 0, 0, 0, 9] by decide]
theorem he2_bytes : he2.bytes = [6, 0, 0, 0, 7, 1, 97, 0] := by decide
theorem he2_got : egO [6, 0, 0, 0, 7, 1, 97, 0] = some he2 := by
  rw [← he2_bytes]; refine egO_bytes ⟨?_, ?_, ?_, ?_, ?_, ?_, ?_, ?_⟩ he2_chk
  · show (0 : Int) ≤ 6; omega
  · show (6 : Int) < 256; omega
  · show (0 : Int) ≤ 0; omega
  · show (0 : Int) < 18446744073709551616; omega
  · show (0 : Int) ≤ 7; omega
  · show (7 : Int) < 4294967296; omega
  · intro p hp; exact absurd hp (by simp [he2])
  · intro p hp; exact absurd hp (by simp [he2])
theorem gotE_open {w : World} {o : Option En} {e : Ending} {w' : World} (h : GotE w o e w') : ∃ (kind : Int) (name : ByteArray) (n xf : Int) (xg xb : ByteArray) (pa : Option Addr) (pc : Nat) (ta : Option Addr) (tc : Nat) (puts : List PtT) (takes : List Rf),
    e = .returned (.tuple #[.agg #[.int .u8 kind, .string name, .int .u64 n, .int .u32 xf, .string xg, .string xb, .slice pa puts.length pc, .slice ta takes.length tc], .int .i64 (enE o)]) ∧ (EnT.mk kind name n (xf, xg, xb) (.slice pa puts.length pc) (.slice ta takes.length tc) puts takes).e = enV o ∧ EnRd (fun i => w.heap.size ≤ i) w' (EnT.mk kind name n (xf, xg, xb) (.slice pa puts.length pc) (.slice ta takes.length tc) puts takes) ∧ Below w.heap.size w w' := by
  obtain ⟨t, he, hp, hR, hB⟩ := h; obtain ⟨kind, name, n, xf, xg, xb, pa, pc, ta, tc, puts, takes, rfl, -⟩ := hR.open; exact ⟨kind, name, n, xf, xg, xb, pa, pc, ta, tc, puts, takes, he, hp, hR, hB⟩
theorem en_parts {k n xf : Int} {nm xg xb : ByteArray} {pv tv : Value} {puts : List PtT} {takes : List Rf} {q : En} (h : (EnT.mk k nm n (xf, xg, xb) pv tv puts takes).e = q) : k = q.kind ∧ nm = q.name ∧ n = q.n ∧ xf = q.x.1 ∧ xg = q.x.2.1 ∧ xb = q.x.2.2 := by
  subst h; exact ⟨rfl, rfl, rfl, rfl, rfl, rfl⟩
set_option maxRecDepth 100000 in
set_option maxHeartbeats 6400000 in
theorem head13_any (w : World) (hT : Tb w) : Calls Tryz.prog 6 #[] w fun e w' => e = .returned (.bool true) ∧ Below w.heap.size w w' := by
  have hput := eput_any (EnT.mk 1 ⟨#[113]⟩ 9 (0, ⟨#[]⟩, ⟨#[]⟩) (.slice none 0 0) (.slice none 0 0) [] []) (fun _ => True) w (en0_rd 1 _ 9 (by omega) (by omega) (by omega) (by omega)) hT; rw [show (EnT.mk 1 ⟨#[113]⟩ 9 (0, ⟨#[]⟩, ⟨#[]⟩) (.slice none 0 0) (.slice none 0 0) [] []).e = he1 from rfl, he1_chk, if_pos rfl, he1_text, EnT.arg_mk] at hput; have hget := fun (u : World) (hu : Tb u) => eget_any u ⟨#[6, 0, 0, 0, 7, 1, 97, 0]⟩ (by decide) hu
  rw [show (⟨#[6, 0, 0, 0, 7, 1, 97, 0]⟩ : ByteArray).data.toList = [6, 0, 0, 0, 7, 1, 97, 0] from rfl, he2_got] at hget; have hchk := fun (u : World) (hu : Tb u) => echeck_any (EnT.mk 1 ⟨#[113]⟩ 0 (0, ⟨#[]⟩, ⟨#[]⟩) (.slice none 0 0) (.slice none 0 0) [] []) (fun _ => True) u (en0_rd 1 _ 0 (by omega) (by omega) (by omega) (by omega)) hu
  simp only [show (EnT.mk 1 ⟨#[113]⟩ 0 (0, ⟨#[]⟩, ⟨#[]⟩) (.slice none 0 0) (.slice none 0 0) [] []).e = he3 from rfl, he3_chk, EnT.arg_mk] at hchk; have hq1 := fun (u : World) => qname_any u ⟨#[113]⟩
  have hq2 := fun (u : World) => qname_any u ⟨#[97, 32, 98]⟩
  simp only [show qn ⟨#[113]⟩ = true by decide] at hq1; simp only [show qn ⟨#[97, 32, 98]⟩ = false by decide] at hq2; have qX := fun (u : World) => (xid_eql u 7 7 ⟨#[97]⟩ ⟨#[]⟩ ⟨#[97]⟩ ⟨#[]⟩).trans (show _ = Result.ok (.bool true) u by rw [bz, show ((⟨#[97]⟩ : ByteArray) == ⟨#[97]⟩) = true by rw [beq_toListBytes, beq_self_eq_true]]; rfl)
  have hputh := Lib.hid hput; have hgeth := Lib.hid hget; have hchkh := Lib.hid hchk; have hq1h := Lib.hid hq1; have hq2h := Lib.hid hq2; have zi := entry_info; have zx := xid_info; clear hput hget hchk hq1 hq2; go_enter Tryz.func6, Tryz.ntmps6; go_wp2_with (first | (go_at_call 8; (with_reducible refine (hputh.out).mono ?_); rintro e w1 ⟨rfl, hT1⟩) | (go_at_call 12; (with_reducible refine (hgeth.out w1 (hT.pure hT1)).mono ?_); rintro e w2 hg; obtain ⟨kind, name, n, xf, xg, xb, pa, pc, ta, tc, puts, takes, rfl, hp, -, hB2⟩ := gotE_open hg; obtain ⟨rfl, rfl, rfl, rfl, rfl, rfl⟩ : kind = 6 ∧ name = ⟨#[]⟩ ∧ n = 0 ∧ xf = 7 ∧ xg = ⟨#[97]⟩ ∧ xb = ⟨#[]⟩ := en_parts hp; clear hg hp; have hT2 := hT1.trans (hB2.mono hT1.size); have hA3 := (Below.refl w2.heap.size w2).alloc (Nat.le_refl _) (.cells #[.int .u8 6, .string ⟨#[]⟩, .int .u64 0, .int .u32 7, .string ⟨#[97]⟩, .string ⟨#[]⟩, .slice pa puts.length pc, .slice ta takes.length tc] 29); have hT3 := hT2.trans (hA3.mono hT2.size); have Q3 := Blk.new w2 [.int .u8 6, .string ⟨#[]⟩, .int .u64 0, .int .u32 7, .string ⟨#[97]⟩, .string ⟨#[]⟩, .slice pa puts.length pc, .slice ta takes.length tc] 29) | (go_at_call 10; (with_reducible refine (hchkh.out _ (hT.pure hT3)).mono ?_); rintro e w4 ⟨rfl, hB4⟩; have hT4 := hT3.trans (hB4.mono hT3.size); have Q4 := Q3.pure hB4; have c0 := Q4.at 0 rfl; have c1 := Q4.at 1 rfl; have c2 := Q4.at 2 rfl; have c3 := Q4.at 3 rfl; have c4 := Q4.at 4 rfl; have c5 := Q4.at 5 rfl; have c6 := Q4.at 6 rfl; have c7 := Q4.at 7 rfl) | (go_at_call 15; (with_reducible refine (hq1h.out _).mono ?_); rintro e w5 ⟨rfl, hB5⟩; have hT5 := hT4.trans (hB5.mono hT4.size)) | (go_at_call 15; (with_reducible refine (hq2h.out _).mono ?_); rintro e w6 ⟨rfl, hB6⟩; have hT6 := hT5.trans (hB6.mono hT5.size))); go_ret; exact ⟨rfl, hT6⟩
end Go.Proofs.YtflglpbjapgciaaGreatDoor
