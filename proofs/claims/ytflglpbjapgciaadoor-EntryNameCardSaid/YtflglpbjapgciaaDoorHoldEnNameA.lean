/- The statement EntryNameCardSaid: whatever its arguments are, the law EntryName returns true, and leaves its arguments as they were. Conditions: none beyond the statement's own. (Texts joined; the heads of the others stand below.) -/
import Derived.Test.YtflglpbjapgciaaDoorEnI
import Derived.Test.YtflglpbjapgciaaDoorCards
import Derived.Test.YtflglpbjapgciaaDoorTie
import Derived.Test.YtflglpbjapgciaaDoorKP
import Derived.ProofKit
import Derived.OpenShut
import Derived.Deep.DeepHandedRow
import Derived.Lay
import Derived.SevenTiedAt
import Derived.ChangeMaps5

/- The head of chapter 13's laws. Conditions: utf8's tables are laid. Written by gen_enK.py. -/
namespace Go.Proofs.YtflglpbjapgciaaDoor
set_option linter.unusedSimpArgs false
set_option linter.unusedVariables false
open Go.RowKit
theorem en0_rd {P : Nat → Prop} {w : World} (k : Int) (nm : ByteArray) (n : Int) (h0 : 0 ≤ k) (h1 : k < 256) (h2 : 0 ≤ n) (h3 : n < 18446744073709551616) : EnRd P w (EnT.mk k nm n (0, ⟨#[]⟩, ⟨#[]⟩) (.slice none 0 0) (.slice none 0 0) [] []) :=
  ⟨Slc.nil _ _ _, (fun k e => by cases e), (fun x hx => absurd hx (by simp)), Slc.nil _ _ _, (fun k e => by cases e), ⟨h0, h1, h2, h3, (by show (0 : Int) ≤ 0; omega), (by show (0 : Int) < 4294967296; omega), (fun p hp => absurd hp (by simp [EnT.e])), (fun p hp => absurd hp (by simp [EnT.e]))⟩⟩
def he1 : En := ⟨1, ⟨#[113]⟩, 9, (0, ⟨#[]⟩, ⟨#[]⟩), [], []⟩
def he2 : En := ⟨6, ⟨#[]⟩, 0, (7, ⟨#[97]⟩, ⟨#[]⟩), [], []⟩
def he3 : En := ⟨1, ⟨#[113]⟩, 0, (0, ⟨#[]⟩, ⟨#[]⟩), [], []⟩
theorem he1_chk : he1.chk = 0 := en_ok.2 (by decide)
theorem he2_chk : he2.chk = 0 := en_ok.2 (by decide)
theorem he3_chk : he3.chk = 130 := by unfold En.chk; rw [if_neg (by decide)]
theorem he1_text : he1.text = ⟨#[1, 1, 113, 0, 0, 0, 0, 0, 0, 0, 9]⟩ := by
  unfold En.text
  rw [show he1.bytes = [1, 1, 113, 0, 0, 0, 0, 0, 0, 0, 9] by decide]
theorem he2_bytes : he2.bytes = [6, 0, 0, 0, 7, 1, 97, 0] := by decide
theorem he2_got : egO [6, 0, 0, 0, 7, 1, 97, 0] = some he2 := by
  rw [← he2_bytes]
  refine egO_bytes ⟨?_, ?_, ?_, ?_, ?_, ?_, ?_, ?_⟩ he2_chk
  · show (0 : Int) ≤ 6; omega
  · show (6 : Int) < 256; omega
  · show (0 : Int) ≤ 0; omega
  · show (0 : Int) < 18446744073709551616; omega
  · show (0 : Int) ≤ 7; omega
  · show (7 : Int) < 4294967296; omega
  · intro p hp; exact absurd hp (by simp [he2])
  · intro p hp; exact absurd hp (by simp [he2])
theorem gotE_open {w : World} {o : Option En} {e : Ending} {w' : World} (h : GotE w o e w') : ∃ (kind : Int) (name : ByteArray) (n xf : Int) (xg xb : ByteArray) (pa : Option Addr) (pc : Nat) (ta : Option Addr) (tc : Nat) (puts : List PtT) (takes : List Rf),
    e = .returned (.tuple #[.agg #[.int .u8 kind, .string name, .int .u64 n, .int .u32 xf, .string xg, .string xb, .slice pa puts.length pc, .slice ta takes.length tc], .int .i64 (enE o)]) ∧ (EnT.mk kind name n (xf, xg, xb) (.slice pa puts.length pc) (.slice ta takes.length tc) puts takes).e = enV o ∧ EnRd (fun i => w.heap.size ≤ i) w' (EnT.mk kind name n (xf, xg, xb) (.slice pa puts.length pc) (.slice ta takes.length tc) puts takes) ∧ Below w.heap.size w w' := by
  obtain ⟨t, he, hp, hR, hB⟩ := h
  obtain ⟨kind, name, n, xf, xg, xb, pa, pc, ta, tc, puts, takes, rfl, -⟩ := hR.open
  exact ⟨kind, name, n, xf, xg, xb, pa, pc, ta, tc, puts, takes, he, hp, hR, hB⟩
theorem en_parts {k n xf : Int} {nm xg xb : ByteArray} {pv tv : Value} {puts : List PtT} {takes : List Rf} {q : En} (h : (EnT.mk k nm n (xf, xg, xb) pv tv puts takes).e = q) : k = q.kind ∧ nm = q.name ∧ n = q.n ∧ xf = q.x.1 ∧ xg = q.x.2.1 ∧ xb = q.x.2.2 := by
  subst h; exact ⟨rfl, rfl, rfl, rfl, rfl, rfl⟩
set_option maxRecDepth 100000 in
set_option maxHeartbeats 6400000 in
theorem head13_any (w : World) (hT : Tb w) : Calls Tryd.prog 9 #[] w fun e w' => e = .returned (.bool true) ∧ Below w.heap.size w w' := by
  have hput := eput_any (EnT.mk 1 ⟨#[113]⟩ 9 (0, ⟨#[]⟩, ⟨#[]⟩) (.slice none 0 0) (.slice none 0 0) [] []) (fun _ => True) w (en0_rd 1 _ 9 (by omega) (by omega) (by omega) (by omega)) hT
  rw [show (EnT.mk 1 ⟨#[113]⟩ 9 (0, ⟨#[]⟩, ⟨#[]⟩) (.slice none 0 0) (.slice none 0 0) [] []).e = he1 from rfl, he1_chk, if_pos rfl, he1_text, EnT.arg_mk] at hput
  have hget := fun (u : World) (hu : Tb u) => eget_any u ⟨#[6, 0, 0, 0, 7, 1, 97, 0]⟩ (by decide) hu
  rw [show (⟨#[6, 0, 0, 0, 7, 1, 97, 0]⟩ : ByteArray).data.toList = [6, 0, 0, 0, 7, 1, 97, 0] from rfl, he2_got] at hget
  have hchk := fun (u : World) (hu : Tb u) => echeck_any (EnT.mk 1 ⟨#[113]⟩ 0 (0, ⟨#[]⟩, ⟨#[]⟩) (.slice none 0 0) (.slice none 0 0) [] []) (fun _ => True) u (en0_rd 1 _ 0 (by omega) (by omega) (by omega) (by omega)) hu
  simp only [show (EnT.mk 1 ⟨#[113]⟩ 0 (0, ⟨#[]⟩, ⟨#[]⟩) (.slice none 0 0) (.slice none 0 0) [] []).e = he3 from rfl, he3_chk, EnT.arg_mk] at hchk
  have hq1 := fun (u : World) => qname_any u ⟨#[113]⟩
  have hq2 := fun (u : World) => qname_any u ⟨#[97, 32, 98]⟩
  simp only [show qn ⟨#[113]⟩ = true by decide] at hq1
  simp only [show qn ⟨#[97, 32, 98]⟩ = false by decide] at hq2
  have qX := fun (u : World) => (xid_eql u 7 7 ⟨#[97]⟩ ⟨#[]⟩ ⟨#[97]⟩ ⟨#[]⟩).trans (show _ = Result.ok (.bool true) u by rw [bz, show ((⟨#[97]⟩ : ByteArray) == ⟨#[97]⟩) = true by rw [beq_toListBytes, beq_self_eq_true]]; rfl)
  have hputh := Lib.hid hput; have hgeth := Lib.hid hget; have hchkh := Lib.hid hchk; have hq1h := Lib.hid hq1; have hq2h := Lib.hid hq2
  have zi := entry_info; have zx := xid_info
  clear hput hget hchk hq1 hq2
  go_enter Tryd.func9, Tryd.ntmps9
  go_wp2_with (first | (go_at_call 14; (with_reducible refine (hputh.out).mono ?_); rintro e w1 ⟨rfl, hT1⟩) | (go_at_call 15; (with_reducible refine (hgeth.out w1 (hT.pure hT1)).mono ?_); rintro e w2 hg; obtain ⟨kind, name, n, xf, xg, xb, pa, pc, ta, tc, puts, takes, rfl, hp, -, hB2⟩ := gotE_open hg; obtain ⟨rfl, rfl, rfl, rfl, rfl, rfl⟩ : kind = 6 ∧ name = ⟨#[]⟩ ∧ n = 0 ∧ xf = 7 ∧ xg = ⟨#[97]⟩ ∧ xb = ⟨#[]⟩ := en_parts hp; clear hg hp; have hT2 := hT1.trans (hB2.mono hT1.size); have hA3 := (Below.refl w2.heap.size w2).alloc (Nat.le_refl _) (.cells #[.int .u8 6, .string ⟨#[]⟩, .int .u64 0, .int .u32 7, .string ⟨#[97]⟩, .string ⟨#[]⟩, .slice pa puts.length pc, .slice ta takes.length tc] 31); have hT3 := hT2.trans (hA3.mono hT2.size); have Q3 := Blk.new w2 [.int .u8 6, .string ⟨#[]⟩, .int .u64 0, .int .u32 7, .string ⟨#[97]⟩, .string ⟨#[]⟩, .slice pa puts.length pc, .slice ta takes.length tc] 31) | (go_at_call 16; (with_reducible refine (hchkh.out _ (hT.pure hT3)).mono ?_); rintro e w4 ⟨rfl, hB4⟩; have hT4 := hT3.trans (hB4.mono hT3.size); have Q4 := Q3.pure hB4; have c0 := Q4.at 0 rfl; have c1 := Q4.at 1 rfl; have c2 := Q4.at 2 rfl; have c3 := Q4.at 3 rfl; have c4 := Q4.at 4 rfl; have c5 := Q4.at 5 rfl; have c6 := Q4.at 6 rfl; have c7 := Q4.at 7 rfl) | (go_at_call 7; (with_reducible refine (hq1h.out _).mono ?_); rintro e w5 ⟨rfl, hB5⟩; have hT5 := hT4.trans (hB5.mono hT4.size)) | (go_at_call 7; (with_reducible refine (hq2h.out _).mono ?_); rintro e w6 ⟨rfl, hB6⟩; have hT6 := hT5.trans (hB6.mono hT5.size)))
  go_ret
  exact ⟨rfl, hT6⟩
end Go.Proofs.YtflglpbjapgciaaDoor

/- EntryName: the law's walk. Conditions: utf8's tables are laid. Written by gen_enK.py. -/
namespace Go.Proofs.YtflglpbjapgciaaDoor
set_option linter.unusedSimpArgs false
set_option linter.unusedVariables false
open Go.RowKit
set_option maxRecDepth 100000 in
set_option maxHeartbeats 3200000 in
theorem dqnameM_any (w : World) (s : ByteArray) (hm : (s.size : Int) ≤ 9223372036854775807) : Calls Tryd.prog 8 #[.string s] w fun e w' => e = .returned (.bool (qn s)) ∧ Below w.heap.size w w' := by
  have hl := Lib.hid (ba_len s)
  have hq := Lib.hid (qn_all s)
  go_enter Tryd.func8, Tryd.ntmps8
  go_wp2
  go_loopw [3] (fun s3 wr => ∃ k : Nat, k ≤ s.size ∧ s3 = .int .i64 k ∧ Hid ((s.data.toList.take k).all qc = true) ∧ Below w.heap.size w wr) (fun s3 _ => s.size - (intOf s3).toNat)
  case atStart => exact ⟨0, by omega, rfl, Lib.hid (by simp), Below.refl _ _⟩
  case round =>
    obtain ⟨k, hk, rfl, hA, hB⟩ := hrel
    by_cases hlt : k < s.size
    · have h1 : (k : Int) < (s.size : Int) := by omega
      have hkl : k < s.data.toList.length := by rw [hl.out]; exact hlt
      have hbt := Lib.hid (show s[k] = s.data.toList[k] by simp [ByteArray.getElem_eq_getElem_data])
      by_cases c1 : s[k].toNat < 33
      · have d3 : decide ((s[k].toNat : Int) ≤ 32) = true := decide_eq_true (by omega)
        have d4 : ((s[k].toNat : Int) ≤ 32) := by omega
        have hno := Lib.hid (show s.data.toList.all qc = false from all_not hkl (by rw [← hbt.out]; unfold qc; simp; omega))
        clear c1
        go_wp2
        go_ret
        exact ⟨by rw [hq.out, hno.out]; simp; try rfl, hB⟩
      by_cases c2 : 126 < s[k].toNat
      · have d3 : decide ((s[k].toNat : Int) ≤ 32) = false := decide_eq_false (by omega)
        have d4 : ¬ ((s[k].toNat : Int) ≤ 32) := by omega
        have d5 : decide ((127 : Int) ≤ (s[k].toNat : Int)) = true := decide_eq_true (by omega)
        have d6 : ((127 : Int) ≤ (s[k].toNat : Int)) := by omega
        have hno := Lib.hid (show s.data.toList.all qc = false from all_not hkl (by rw [← hbt.out]; unfold qc; simp; omega))
        clear c1 c2
        go_wp2
        go_ret
        exact ⟨by rw [hq.out, hno.out]; simp; try rfl, hB⟩
      have d3 : decide ((s[k].toNat : Int) ≤ 32) = false := decide_eq_false (by omega)
      have d4 : ¬ ((s[k].toNat : Int) ≤ 32) := by omega
      have d5 : decide ((127 : Int) ≤ (s[k].toNat : Int)) = false := decide_eq_false (by omega)
      have d6 : ¬ ((127 : Int) ≤ (s[k].toNat : Int)) := by omega
      have hA2 := Lib.hid (all_take_succ hkl hA.out (by rw [← hbt.out]; unfold qc; simp; omega))
      clear c1 c2
      go_wp2
      go_roundw
      case rel => exact ⟨k + 1, by omega, by go_num, hA2, hB⟩
      case measure => simp [intOf]; omega
    · obtain rfl : k = s.size := by omega
      have hA2 := Lib.hid (show s.data.toList.all qc = true by have h := hA.out; rwa [List.take_of_length_le (by rw [hl.out]; exact Nat.le_refl _)] at h)
      clear hm
      by_cases h0 : 1 ≤ s.size
      · have d1 : decide ((1 : Int) ≤ (s.size : Int)) = true := decide_eq_true (by omega)
        have d1n : decide (1 ≤ s.size) = true := decide_eq_true h0
        by_cases h2 : s.size ≤ 40
        · have d2 : decide ((s.size : Int) ≤ 40) = true := decide_eq_true (by omega)
          have hqq := Lib.hid (show qn s = true by rw [hq.out, hA2.out, d1n, decide_eq_true h2]; rfl)
          clear h0 h2 d1n
          go_wp2
          go_ret
          exact ⟨by rw [hqq.out]; rfl, hB⟩
        · have d2 : decide ((s.size : Int) ≤ 40) = false := decide_eq_false (by omega)
          have hqq := Lib.hid (show qn s = false by rw [hq.out, decide_eq_false h2]; simp)
          clear h0 h2 d1n
          go_wp2
          go_ret
          exact ⟨by rw [hqq.out]; rfl, hB⟩
      · have d1 : decide ((1 : Int) ≤ (s.size : Int)) = false := decide_eq_false (by omega)
        have hqq := Lib.hid (show qn s = false by rw [hq.out, decide_eq_false h0]; simp)
        clear h0
        go_wp2
        go_ret
        exact ⟨by rw [hqq.out]; rfl, hB⟩
set_option maxRecDepth 100000 in
set_option maxHeartbeats 6400000 in
theorem entryName_law (w : World) (s : ByteArray) (hm : (s.size : Int) ≤ 9223372036854775807) (hT : Tb w) : Calls Tryd.prog 3 #[.string s] w fun e w' => e = .returned (.bool true) ∧ Below w.heap.size w w' := by
  obtain ⟨b, hb⟩ : ∃ b, qn s = b := ⟨_, rfl⟩
  have h1 := fun (u : World) => qname_any u s
  have h2 := fun (u : World) => dqnameM_any u s hm
  simp only [hb] at h1 h2
  have h1h := Lib.hid h1; have h2h := Lib.hid h2
  clear h1 h2 hb hm
  go_enter Tryd.func3, Tryd.ntmps3
  go_wp2_with (first | (go_at_call 7; (with_reducible refine (h1h.out _).mono ?_); rintro e w1 ⟨rfl, hB1⟩) | (go_at_call 8; (with_reducible refine (h2h.out _).mono ?_); rintro e w2 ⟨rfl, hB2⟩; have hT2 := hB1.trans (hB2.mono hB1.size)) | (go_at_call 9; (with_reducible refine (head13_any _ (hT.pure hT2)).mono ?_); rintro e w3 ⟨rfl, hB3⟩; have hT3 := hT2.trans (hB3.mono hT2.size)))
  go_ret
  exact ⟨rfl, hT3⟩
end Go.Proofs.YtflglpbjapgciaaDoor

/- The statement EntryNameCardSaid: whatever its arguments are, the law EntryName returns true, and leaves its arguments as they were. Conditions: none beyond the statement's own. -/
namespace Go.Proofs.YtflglpbjapgciaaDoor.holdEntryName
open Go.ChangeShapes Go.WideShapes Go.ChangeAt Go.RowKit
set_option maxRecDepth 100000

theorem ownK : ownKnob Tryd.prog.godebug = none := by kernel_rfl
theorem laidO : laidOutB Tryd.prog = true := by kernel_rfl

theorem laid_met (os : Os) (args : Array Value) : laidMetH Tryd.prog Rows.entryNameRow.laid ((World.laidAll Tryd.prog os LAID).forCall (fun _ _ => 0) ⟨#[], args, []⟩).memory := by
  rw [MakeChecks.laidMetH_plain _ _ _ (by kernel_rfl)]
  exact laidMet_laidAll (laid := LAID) _ (by kernel_rfl) (by kernel_rfl)
theorem reads (os : Os) {H : Type} (enc : TypeId × Value → H) : ∃ places, DataW.whole enc Tryd.prog ((World.laidAll Tryd.prog os LAID).forCall (fun _ _ => 0) ⟨#[], #[.string ⟨#[]⟩], []⟩).memory Tryd.f3.params.toList Rows.entryNameSpec.vars false (#[.string ⟨#[]⟩] : Array Value).toList 8 = some ([.lit (.string [])], [], places) :=
  ⟨[], by kernel_rfl⟩
set_option maxHeartbeats 1000000 in
theorem lifted (os : Os) (started : os.Started) (H : Type) (enc : TypeId × Value → H) (F : Stop.Interp) :
    ReturnsInHanded {} Tryd.checked os 3 .any ((OpenSpec.ofChange Rows.entryNameSpec).preRow enc Tryd.prog Tryd.f3 Rows.entryNameRow.domain false Rows.entryNameRow.laid) (((OpenSpec.ofChange Rows.entryNameSpec).at F).post enc Tryd.prog Tryd.f3 false true false false) := by
  obtain ⟨places, hx⟩ := reads os enc
  refine returnsInHanded_of_row (C := Tryd.checked) (s := OpenSpec.ofChange Rows.entryNameSpec) ownK started (by kernel_rfl) Tryd.func3
    (witness_row_at (enc := enc) (C := Tryd.checked) false (World.laidAll Tryd.prog os LAID) #[.string ⟨#[]⟩] (World.laidAll_os _ _ _) (by kernel_rfl) (by kernel_rfl) (by kernel_rfl)
      (OpenSpec.preRow_of_cond 8 hx (by kernel_rfl) (fun k hk => by cases hk) (by kernel_rfl) (laid_met os _))) ?_
  intro W base args ds gs before hval0 hW _ _ _ hL _ _
  rw [MakeChecks.laidMetH_plain _ _ _ (by kernel_rfl)] at hL
  have hT := tb_of_laid hL
  clear hL
  have hval : ∀ (j : Nat) t v, Tryd.f3.params[j]? = some t → args[j]? = some v → Value.okWide Tryd.prog W .any base t v := hval0
  have hW' := hW
  obtain ⟨p, q, hA0, hV, rfl, hfz, hnd⟩ := hW
  have hA : DataW.TrodAll enc Tryd.prog W 0 (fun _ => true) true Tryd.f3.params.toList args.toList ds p := hA0
  rw [Tryd.params3] at hA hval
  obtain ⟨v0, vs0, d0, ds0, p0, q0, hargs, rfl, rfl, h0, r0⟩ := trodAll_cons hA
  obtain ⟨rfl, rfl, rfl⟩ := trodAll_nil r0
  obtain rfl : args = #[v0] := by cases args; simp_all
  obtain ⟨rfl, rfl⟩ := trodVars_none hV
  have k0 := hval 0 9 v0 rfl rfl
  clear hA0 hval0 hval
  simp only [List.append_nil] at hW'
  have hlt : ∀ x ∈ p0, x.block < W.heap.size := fun x hx => by simpa using hW'.lt x (by simpa using hx)
  have g0 : ∀ W', Below W.heap.size W W' → DataW.Trod enc Tryd.prog W' 0 (fun b => decide (b < W.heap.size)) true 9 v0 d0 p0 := fun W' hn => Below.trod laidO (by kernel_rfl) (of_decide_eq_true (by kernel_rfl)) h0 hn (fun x hx => hlt x (by simp [hx]))
  obtain ⟨s0, rfl, rfl, rfl, m0⟩ := Go.ChangeMaps.open_string Tryd.underlying9 k0 h0
  refine (entryName_law W s0 (by have := m0; unfold maxLen at this; omega) hT).mono fun e W' ⟨he, hb⟩ => ?_
  subst he
  exact ⟨_, rfl, _, _, _, [], _, [], hW', trodAll_cons_mk (shut_bool Tryd.underlying4 _) trodAll_mk0, (trodAll_cons_mk (g0 _ hb) trodAll_mk0), rfl, hb.frame _, fun h => by cases h⟩

theorem said : Rows.EntryNameSaid :=
  OpenClaim.holds_of_cond 3 Tryd.f3 rfl rfl rfl rfl rfl rfl rfl ⟨rfl, rfl, rfl, rfl, rfl⟩ rfl rfl rfl rfl rfl (by kernel_rfl) Tryd.func3 (by kernel_rfl)
    (of_decide_eq_true (by kernel_rfl)) (by unfold Func.isWrapper; first | (rw [if_pos (by decide +kernel)]; kernel_rfl) | (rw [if_neg (by decide +kernel)]; exact ⟨rfl, rfl⟩))
    (fun os started H enc _ F => by rw [OpenClaim.pre_eq_preRow]; exact lifted os started H enc F)
theorem plainP (f : FuncId) (fn : Func) (hf : Tryd.pinned.checked.prog.funcNamed "posthouse/posthouselaw13.EntryName" = some f) (hfn : Tryd.pinned.checked.prog.funcs[f]? = some fn) :
    true = Tryd.pinned.checked.prog.looks [] ∧ ∀ (j : Nat) t, fn.params[j]? = some t → Tryd.pinned.checked.prog.wantsStandIn t = false := by
  obtain rfl : f = 3 := Option.some.inj ((show Tryd.prog.funcNamed "posthouse/posthouselaw13.EntryName" = some 3 by kernel_rfl).symm.trans hf) |>.symm
  obtain rfl : fn = Tryd.f3 := (Option.some.inj (Tryd.func3.symm.trans hfn)).symm
  refine ⟨by kernel_rfl, fun j t ht => ?_⟩
  rw [Tryd.params3] at ht
  have hm := Array.mem_of_getElem? ht
  simp only [List.mem_toArray, List.mem_cons, List.not_mem_nil, or_false] at hm
  rcases hm with rfl <;> exact (show Tryd.prog.wantsStandIn _ = false by kernel_rfl)
/-- The card. -/
theorem card : Rows.EntryNameCardSaid :=
  Claim7.holds_tied_plain_at .later [] _ _ _ _ said (fun _ h => by cases h) (by kernel_rfl) (fun _ h => by cases h) entryName_row_tie rfl ⟨rfl, rfl⟩ (by kernel_rfl) rfl plainP (by kernel_rfl)
end Go.Proofs.YtflglpbjapgciaaDoor.holdEntryName
namespace Go.Proofs.YtflglpbjapgciaaDoor
set_option linter.unusedSimpArgs false
set_option linter.unusedVariables false
theorem entryNameCard_holds : Rows.EntryNameCardSaid := holdEntryName.card
#print axioms entryNameCard_holds
end Go.Proofs.YtflglpbjapgciaaDoor
