/- Entries: the document's Small. No condition. Written by gen_enS.py. (Texts joined.) -/
import Derived.Test.YtlonokcaddpniaaGreatDoorEO
set_option linter.unusedSimpArgs false
set_option linter.unusedVariables false
namespace Go.Proofs.YtlonokcaddpniaaGreatDoor
open Go.RowKit
/-- A put that is small in the document's words. -/
structure SmPt (p : PtT) : Prop where
  q : p.q.size ≤ 200
  body : p.body.size ≤ 20000
  key : p.pr.key.size ≤ 1000
  mid : p.pr.mid.size ≤ 1000
  fit : V.Fit p.pr.app.v
def bodies (l : List PtT) : Nat := (l.map (fun p => p.body.size)).sum
theorem bodies_take {l : List PtT} {k : Nat} (h : k < l.length) : bodies (l.take (k + 1)) = bodies (l.take k) + l[k].body.size := by
  unfold bodies; rw [List.take_succ_eq_append_getElem h, List.map_append, List.sum_append]; simp
theorem sm_take {l : List PtT} {k : Nat} (h : k < l.length) (hl : ∀ x ∈ l.take k, SmPt x) (hx : SmPt l[k]) : ∀ x ∈ l.take (k + 1), SmPt x := by
  intro x hm; rw [List.take_succ_eq_append_getElem h, List.mem_append, List.mem_singleton] at hm; rcases hm with hm | rfl
  · exact hl x hm
  · exact hx
set_option maxRecDepth 100000 in
set_option maxHeartbeats 3200000 in
theorem dsmallputs_any (w : World) (la : Option Addr) (lc : Nat) (l : List PtT) (m : Int) (P : Nat → Prop) (hL : Slc ptEnc 12 w (.slice la l.length lc) l) (hml : (l.length : Int) ≤ 9223372036854775807) (hsub : ∀ x ∈ l, Rd P w x.pr.app) :
    Calls Tryz.prog 8 #[.slice la l.length lc, .int .i64 m] w (Tells w.heap.size w ((l.length : Int) ≤ m ∧ (∀ x ∈ l, SmPt x) ∧ bodies l ≤ 20000)) := by
  have hsubh := Lib.hid hsub; clear hsub; by_cases e : (l.length : Int) ≤ m
  rotate_left 1
  · have h1 : m < (l.length : Int) := by omega
    have h2 : ¬ (l.length : Int) ≤ m := e; clear e; go_enter Tryz.func8, Tryz.ntmps8; go_wp2; go_ret; exact tells_no (Below.refl _ _)
  have h1 : (l.length : Int) ≤ m := e; have h2 : ¬ m < (l.length : Int) := by omega
  have eh := Lib.hid e; clear e; go_enter Tryz.func8, Tryz.ntmps8; go_wp2; clear h1 h2; go_loopw [5, 6] (fun s5 s6 wr => ∃ (k room : Nat), k ≤ l.length ∧ s5 = .int .i64 (room : Int) ∧ s6 = .int .i64 (k : Int) ∧ Hid (bodies (l.take k) + room = 20000) ∧ Hid (∀ x ∈ l.take k, SmPt x) ∧ Below w.heap.size w wr) (fun _ s6 _ => l.length - (intOf s6).toNat)
  case atStart => exact ⟨0, 20000, by omega, rfl, rfl, Lib.hid (by simp [bodies]), Lib.hid (by simp), Below.refl _ _⟩
  case round =>
    obtain ⟨k, room, hk, rfl, rfl, hbo, hsm, hB⟩ := hrel; by_cases hlt : k < l.length
    · have h1 : (k : Int) < (l.length : Int) := by omega
      have hLr := hL.pure hB; obtain ⟨g, off, rfl⟩ := hLr.addrB hlt; have hRk := (hsubh.out l[k] (List.getElem_mem hlt)).pure hB; obtain ⟨qu, idu, keyu, duru, redu, midu, uk, un, us, uka, ukc, ula, ulc, uks, ul, bodyu, hx, e0, e1, e2, e3, e4, e5, e6, e7, e8, e9, e10, e11⟩ := pt_elem hLr hlt hRk; have htb := Lib.hid (bodies_take hlt); have hts := Lib.hid (fun h : SmPt l[k] => sm_take hlt hsm.out h); have s1 := d9small_any l[k].pr P wr hRk; rw [hx] at s1 hts htb; have s1h := Lib.hid s1; clear s1 hx hRk hLr; by_cases e : bodyu.size ≤ room
      rotate_left 1
      · have hd : decide (room < bodyu.size) = true := decide_eq_true (by omega); clear e htb hts s1h; go_wp2; go_ret; exact tells_no hB
      have hd : decide (room < bodyu.size) = false := decide_eq_false (by omega); have hbh := Lib.hid e; clear e; by_cases e : qu.size ≤ 200
      rotate_left 1
      · have hd2 : decide ((qu.size : Int) ≤ 200) = false := decide_eq_false (by omega); have hd3 : decide (200 < qu.size) = true := decide_eq_true (by omega); have hd4 : decide ((200 : Int) < (qu.size : Int)) = true := decide_eq_true (by omega); have hd5 : decide (qu.size ≤ 200) = false := decide_eq_false (by omega); clear e htb hts s1h; go_wp2; go_ret; exact tells_no hB
      have hd2 : decide ((qu.size : Int) ≤ 200) = true := decide_eq_true (by omega); have hd3 : decide (200 < qu.size) = false := decide_eq_false (by omega); have hd4 : decide ((200 : Int) < (qu.size : Int)) = false := decide_eq_false (by omega); have hd5 : decide (qu.size ≤ 200) = true := decide_eq_true (by omega); have hqh := Lib.hid e; clear e; go_wp2_with fail; refine s1h.out.mono ?_; rintro e w2 ⟨⟨b, rfl, hsb⟩, hB2⟩; have hsbh := Lib.hid hsb; clear hsb; have hB3 := hB.trans (hB2.mono hB.size); have k3 := cell_kept e11 hB2; cases b
      · go_wp2; go_ret; exact tells_no hB3
      · have hsz := Lib.hid (hsbh.out rfl); have hrm : ((room : Int) - (bodyu.size : Int)) = ((room - bodyu.size : Nat) : Int) := by have := hbh.out; omega
        have hrr := Lib.hid (show room ≤ 20000 by have := hbo.out; omega); have hwr : wrap64 ((room - bodyu.size : Nat) : Int) = ((room - bodyu.size : Nat) : Int) := IntWalk.wrap64_in _ (by have := hrr.out; omega); go_wp2; go_roundw
        case rel => exact ⟨k + 1, room - bodyu.size, by omega, by go_num, by go_num, Lib.hid (by rw [htb.out]; have h1 := hbo.out; have h2 := hbh.out; show _ + bodyu.size + _ = _; omega), Lib.hid (hts.out ⟨hqh.out, by have h1 := hbh.out; have h2 := hrr.out; show bodyu.size ≤ 20000; omega, hsz.out.1, hsz.out.2.1, hsz.out.2.2⟩), hB3⟩
        case measure => simp [intOf]; omega
    · obtain rfl : k = l.length := by omega
      have hf := Lib.hid (show (∀ x ∈ l, SmPt x) ∧ bodies l ≤ 20000 from ⟨by have h := hsm.out; rw [List.take_length] at h; exact h, by have h := hbo.out; rw [List.take_length] at h; omega⟩); go_wp2; go_ret; exact tells_if (fun _ => ⟨eh.out, hf.out⟩) hB
structure SmEn (t : EnT) : Prop where
  nt : t.takes.length ≤ 110
  name : t.name.size ≤ 200
  np : (t.puts.length : Int) ≤ 110
  puts : ∀ x ∈ t.puts, SmPt x
  bodies : bodies t.puts ≤ 20000
  takes : ∀ r ∈ t.takes, r.q.size ≤ 200
set_option maxRecDepth 100000 in
set_option maxHeartbeats 3200000 in
theorem edsmall_any (t : EnT) (P : Nat → Prop) (w : World) (hR : EnRd P w t) : Calls Tryz.prog 32 #[t.arg] w (Tells w.heap.size w (SmEn t)) := by
  obtain ⟨kind, name, n, xf, xg, xb, pa, pc, ta, tc, puts, takes, rfl, hml, hmk⟩ := hR.open; rw [EnT.arg_mk]; have hml : (puts.length : Int) ≤ 9223372036854775807 := by unfold maxLen at hml; omega
  have hmk : (takes.length : Int) ≤ 9223372036854775807 := by unfold maxLen at hmk; omega
  have hB1 := (Below.refl w.heap.size w).alloc (Nat.le_refl _) (.cells #[.int .u8 kind, .string name, .int .u64 n, .int .u32 xf, .string xg, .string xb, .slice pa puts.length pc, .slice ta takes.length tc] 57); have A1 := Blk.new w [.int .u8 kind, .string name, .int .u64 n, .int .u32 xf, .string xg, .string xb, .slice pa puts.length pc, .slice ta takes.length tc] 57; have R1 := hR.pure hB1; clear hR; have a0 := A1.at 0 rfl; have a1 := A1.at 1 rfl; have a2 := A1.at 2 rfl; have a3 := A1.at 3 rfl; have a4 := A1.at 4 rfl; have a5 := A1.at 5 rfl; have a6 := A1.at 6 rfl; have a7 := A1.at 7 rfl; have s1 := Lib.hid (dsmallputs_any _ pa pc puts 110 P R1.p hml R1.r); have hS1 := Lib.hid R1.s; clear R1; go_enter Tryz.func32, Tryz.ntmps32; by_cases h1 : takes.length ≤ 110
  rotate_left 1
  · have h1d : decide ((takes.length : Int) ≤ 110) = false := decide_eq_false (by omega); have h1e : decide (takes.length ≤ 110) = false := decide_eq_false (by omega); have h1f : decide (110 < takes.length) = true := decide_eq_true (by omega); have h1g : decide ((110 : Int) < (takes.length : Int)) = true := decide_eq_true (by omega); have h1i : 110 < takes.length := by omega
    have h1k : (110 : Int) < (takes.length : Int) := by omega
    clear h1 s1; go_wp2; go_ret; exact tells_no hB1
  have h1d : decide ((takes.length : Int) ≤ 110) = true := decide_eq_true (by omega); have h1e : decide (takes.length ≤ 110) = true := decide_eq_true (by omega); have h1f : decide (110 < takes.length) = false := decide_eq_false (by omega); have h1g : decide ((110 : Int) < (takes.length : Int)) = false := decide_eq_false (by omega); have h1h := Lib.hid h1; clear h1; by_cases h1 : name.size ≤ 200
  rotate_left 1
  · have h2d : decide ((name.size : Int) ≤ 200) = false := decide_eq_false (by omega); have h2e : decide (name.size ≤ 200) = false := decide_eq_false (by omega); have h2f : decide (200 < name.size) = true := decide_eq_true (by omega); have h2g : decide ((200 : Int) < (name.size : Int)) = true := decide_eq_true (by omega); clear h1 s1; go_wp2; go_ret; exact tells_no hB1
  have h2d : decide ((name.size : Int) ≤ 200) = true := decide_eq_true (by omega); have h2e : decide (name.size ≤ 200) = true := decide_eq_true (by omega); have h2f : decide (200 < name.size) = false := decide_eq_false (by omega); have h2g : decide ((200 : Int) < (name.size : Int)) = false := decide_eq_false (by omega); have h2h := Lib.hid h1; clear h1; go_wp2_with fail; refine s1.out.mono ?_; rintro e w2 ⟨⟨b, rfl, hsb⟩, hB2⟩; have hsbh := Lib.hid hsb; have hB3 := hB1.trans (hB2.mono hB1.size); have A2 := A1.pure hB2; have K2 := hS1.out.pure hB2; clear hsb s1 hS1 a0 a1 a2 a3 a4 a5 a6 a7; cases b
  · go_wp2; go_ret; exact tells_no hB3
  have hsz := Lib.hid (hsbh.out rfl); clear hsbh h1d h1e h1f h1g h2d h2e h2f h2g; go_wp2; go_loopw [3] (fun s3 wr => ∃ (k : Nat), k ≤ takes.length ∧ s3 = .int .i64 (k : Int) ∧ Hid (∀ r ∈ takes.take k, r.q.size ≤ 200) ∧ wr = w2) (fun s3 _ => takes.length - (intOf s3).toNat)
  case atStart => exact ⟨0, by omega, rfl, Lib.hid (by simp), rfl⟩
  case round =>
    obtain ⟨k, hk, rfl, hsm, rfl⟩ := hrel; have a7 := A2.at 7 rfl; by_cases hlt : k < takes.length
    · have h1 : (k : Int) < (takes.length : Int) := by omega
      obtain ⟨g, off, rfl⟩ := K2.addrB hlt; obtain ⟨q, i, hx, c0, c1⟩ := rf_elem K2 hlt
      have hts := Lib.hid (fun h : q.size ≤ 200 => show ∀ r ∈ takes.take (k + 1), r.q.size ≤ 200 by
        intro r hm; rw [List.take_succ_eq_append_getElem hlt, List.mem_append, List.mem_singleton] at hm; rcases hm with hm | rfl
        · exact hsm.out r hm
        · rw [hx]; exact h)
      clear hx; by_cases h2 : q.size ≤ 200
      rotate_left 1
      · have hd : 200 < q.size := by omega
        have hd2 : (200 : Int) < (q.size : Int) := by omega
        clear hts; go_wp2; go_ret; exact tells_no hB3
      · have hts2 := Lib.hid (hts.out h2); have hd : ¬ 200 < q.size := by omega
        have hd2 : ¬ (200 : Int) < (q.size : Int) := by omega
        clear hts; go_wp2; go_roundw
        case rel => exact ⟨k + 1, by omega, by go_num, hts2, by first | trivial | rfl⟩
        case measure => simp [intOf]; omega
    · obtain rfl : k = takes.length := by omega
      have hf := Lib.hid (show SmEn (EnT.mk kind name n (xf, xg, xb) (.slice pa puts.length pc) (.slice ta takes.length tc) puts takes) from ⟨h1h.out, h2h.out, hsz.out.1, hsz.out.2.1, hsz.out.2.2, by have h := hsm.out; rw [List.take_length] at h; exact h⟩); go_wp2; go_ret; exact tells_if (fun _ => hf.out) hB3
end Go.Proofs.YtlonokcaddpniaaGreatDoor
