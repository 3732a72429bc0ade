/- Entries: Same, the document's. No condition. Written by gen_enQ.py. (Texts joined.) -/
import Derived.Test.YtlonokcaddpniaaGreatDoorEL
import Derived.Test.YtlonokcaddpniaaGreatDoorPA
import Derived.Test.YtlonokcaddpniaaGreatDoorKA
set_option linter.unusedSimpArgs false
set_option linter.unusedVariables false
namespace Go.Proofs.YtlonokcaddpniaaGreatDoor
open Go.RowKit
set_option maxRecDepth 100000 in
set_option maxHeartbeats 6400000 in
theorem dsameput_any (t x : PtT) (P P2 : Nat → Prop) (w : World) (hR : Rd P w t.pr.app) (hR2 : Rd P2 w x.pr.app) : Calls Tryz.prog 60 #[t.arg, x.arg] w (Says w.heap.size w (t.p = x.p)) := by
  obtain ⟨qu, idu, ⟨keyu, duru, redu, midu, uv⟩, bodyu⟩ := t; have hR : Rd _ _ uv := hR; obtain ⟨uk, un, us, uka, ukc, ula, ulc, uks, ul, rfl, -⟩ := hR.open; obtain ⟨qx, idx, ⟨keyx, durx, redx, midx, xv⟩, bodyx⟩ := x; have hR2 : Rd _ _ xv := hR2; obtain ⟨xk, xn, xs, xka, xkc, xla, xlc, xks, xl, rfl, -⟩ := hR2.open; simp only [PtT.arg_mk, pt_same]; by_cases e : qu = qx
  rotate_left 1
  · have h1 : ¬ qu.toList = qx.toList := ba_toList_ne e; have h2 : (qu.toList == qx.toList) = false := beq_eq_false_iff_ne.2 h1; have h3 : decide (qu.toList = qx.toList) = false := decide_eq_false h1; have hno := Lib.hid e; clear e; have hB0 := ((Below.refl w.heap.size w).alloc (Nat.le_refl _) (.cells #[.string qu, .int .u64 idu, .string keyu, .bool duru, .bool redu, .string midu, .int .u8 uk, .int .u64 un, .string us, .slice uka uks.length ukc, .slice ula ul.length ulc, .string bodyu] 35)); have hB1 := hB0.alloc hB0.size (.cells #[.string qx, .int .u64 idx, .string keyx, .bool durx, .bool redx, .string midx, .int .u8 xk, .int .u64 xn, .string xs, .slice xka xks.length xkc, .slice xla xl.length xlc, .string bodyx] 35); have b0 := (Blk.new w [.string qu, .int .u64 idu, .string keyu, .bool duru, .bool redu, .string midu, .int .u8 uk, .int .u64 un, .string us, .slice uka uks.length ukc, .slice ula ul.length ulc, .string bodyu] 35).alloc (.cells #[.string qx, .int .u64 idx, .string keyx, .bool durx, .bool redx, .string midx, .int .u8 xk, .int .u64 xn, .string xs, .slice xka xks.length xkc, .slice xla xl.length xlc, .string bodyx] 35); have b1 := Blk.newK (w.alloc (.cells #[.string qu, .int .u64 idu, .string keyu, .bool duru, .bool redu, .string midu, .int .u8 uk, .int .u64 un, .string us, .slice uka uks.length ukc, .slice ula ul.length ulc, .string bodyu] 35)) [.string qx, .int .u64 idx, .string keyx, .bool durx, .bool redx, .string midx, .int .u8 xk, .int .u64 xn, .string xs, .slice xka xks.length xkc, .slice xla xl.length xlc, .string bodyx] 35 (w.heap.size + 1) (by simp); have c0 := b0.at 0 rfl; have c1 := b0.at 1 rfl; have c2 := b0.at 2 rfl; have c3 := b0.at 3 rfl; have c4 := b0.at 4 rfl; have c5 := b0.at 5 rfl; have c6 := b0.at 6 rfl; have c7 := b0.at 7 rfl; have c8 := b0.at 8 rfl; have c9 := b0.at 9 rfl; have c10 := b0.at 10 rfl; have c11 := b0.at 11 rfl; have d0 := b1.at 0 rfl; have d1 := b1.at 1 rfl; have d2 := b1.at 2 rfl; have d3 := b1.at 3 rfl; have d4 := b1.at 4 rfl; have d5 := b1.at 5 rfl; have d6 := b1.at 6 rfl; have d7 := b1.at 7 rfl; have d8 := b1.at 8 rfl; have d9 := b1.at 9 rfl; have d10 := b1.at 10 rfl; have d11 := b1.at 11 rfl; go_enter Tryz.func60, Tryz.ntmps60; go_wp2; go_ret; exact says_no (fun h => hno.out h.1) hB1
  subst e; by_cases e : idu = idx
  rotate_left 1
  · have h2 : (idu == idx) = false := beq_eq_false_iff_ne.2 e; have h3 : decide (idu = idx) = false := decide_eq_false e; have hno := Lib.hid e; clear e; have hB0 := ((Below.refl w.heap.size w).alloc (Nat.le_refl _) (.cells #[.string qu, .int .u64 idu, .string keyu, .bool duru, .bool redu, .string midu, .int .u8 uk, .int .u64 un, .string us, .slice uka uks.length ukc, .slice ula ul.length ulc, .string bodyu] 35)); have hB1 := hB0.alloc hB0.size (.cells #[.string qu, .int .u64 idx, .string keyx, .bool durx, .bool redx, .string midx, .int .u8 xk, .int .u64 xn, .string xs, .slice xka xks.length xkc, .slice xla xl.length xlc, .string bodyx] 35); have b0 := (Blk.new w [.string qu, .int .u64 idu, .string keyu, .bool duru, .bool redu, .string midu, .int .u8 uk, .int .u64 un, .string us, .slice uka uks.length ukc, .slice ula ul.length ulc, .string bodyu] 35).alloc (.cells #[.string qu, .int .u64 idx, .string keyx, .bool durx, .bool redx, .string midx, .int .u8 xk, .int .u64 xn, .string xs, .slice xka xks.length xkc, .slice xla xl.length xlc, .string bodyx] 35); have b1 := Blk.newK (w.alloc (.cells #[.string qu, .int .u64 idu, .string keyu, .bool duru, .bool redu, .string midu, .int .u8 uk, .int .u64 un, .string us, .slice uka uks.length ukc, .slice ula ul.length ulc, .string bodyu] 35)) [.string qu, .int .u64 idx, .string keyx, .bool durx, .bool redx, .string midx, .int .u8 xk, .int .u64 xn, .string xs, .slice xka xks.length xkc, .slice xla xl.length xlc, .string bodyx] 35 (w.heap.size + 1) (by simp); have c0 := b0.at 0 rfl; have c1 := b0.at 1 rfl; have c2 := b0.at 2 rfl; have c3 := b0.at 3 rfl; have c4 := b0.at 4 rfl; have c5 := b0.at 5 rfl; have c6 := b0.at 6 rfl; have c7 := b0.at 7 rfl; have c8 := b0.at 8 rfl; have c9 := b0.at 9 rfl; have c10 := b0.at 10 rfl; have c11 := b0.at 11 rfl; have d0 := b1.at 0 rfl; have d1 := b1.at 1 rfl; have d2 := b1.at 2 rfl; have d3 := b1.at 3 rfl; have d4 := b1.at 4 rfl; have d5 := b1.at 5 rfl; have d6 := b1.at 6 rfl; have d7 := b1.at 7 rfl; have d8 := b1.at 8 rfl; have d9 := b1.at 9 rfl; have d10 := b1.at 10 rfl; have d11 := b1.at 11 rfl; go_enter Tryz.func60, Tryz.ntmps60; go_wp2; go_ret; exact says_no (fun h => hno.out h.1) hB1
  subst e; by_cases e : bodyu = bodyx
  rotate_left 1
  · have h1 : ¬ bodyu.toList = bodyx.toList := ba_toList_ne e; have h2 : (bodyu.toList == bodyx.toList) = false := beq_eq_false_iff_ne.2 h1; have h3 : decide (bodyu.toList = bodyx.toList) = false := decide_eq_false h1; have hno := Lib.hid e; clear e; have hB0 := ((Below.refl w.heap.size w).alloc (Nat.le_refl _) (.cells #[.string qu, .int .u64 idu, .string keyu, .bool duru, .bool redu, .string midu, .int .u8 uk, .int .u64 un, .string us, .slice uka uks.length ukc, .slice ula ul.length ulc, .string bodyu] 35)); have hB1 := hB0.alloc hB0.size (.cells #[.string qu, .int .u64 idu, .string keyx, .bool durx, .bool redx, .string midx, .int .u8 xk, .int .u64 xn, .string xs, .slice xka xks.length xkc, .slice xla xl.length xlc, .string bodyx] 35); have b0 := (Blk.new w [.string qu, .int .u64 idu, .string keyu, .bool duru, .bool redu, .string midu, .int .u8 uk, .int .u64 un, .string us, .slice uka uks.length ukc, .slice ula ul.length ulc, .string bodyu] 35).alloc (.cells #[.string qu, .int .u64 idu, .string keyx, .bool durx, .bool redx, .string midx, .int .u8 xk, .int .u64 xn, .string xs, .slice xka xks.length xkc, .slice xla xl.length xlc, .string bodyx] 35); have b1 := Blk.newK (w.alloc (.cells #[.string qu, .int .u64 idu, .string keyu, .bool duru, .bool redu, .string midu, .int .u8 uk, .int .u64 un, .string us, .slice uka uks.length ukc, .slice ula ul.length ulc, .string bodyu] 35)) [.string qu, .int .u64 idu, .string keyx, .bool durx, .bool redx, .string midx, .int .u8 xk, .int .u64 xn, .string xs, .slice xka xks.length xkc, .slice xla xl.length xlc, .string bodyx] 35 (w.heap.size + 1) (by simp); have c0 := b0.at 0 rfl; have c1 := b0.at 1 rfl; have c2 := b0.at 2 rfl; have c3 := b0.at 3 rfl; have c4 := b0.at 4 rfl; have c5 := b0.at 5 rfl; have c6 := b0.at 6 rfl; have c7 := b0.at 7 rfl; have c8 := b0.at 8 rfl; have c9 := b0.at 9 rfl; have c10 := b0.at 10 rfl; have c11 := b0.at 11 rfl; have d0 := b1.at 0 rfl; have d1 := b1.at 1 rfl; have d2 := b1.at 2 rfl; have d3 := b1.at 3 rfl; have d4 := b1.at 4 rfl; have d5 := b1.at 5 rfl; have d6 := b1.at 6 rfl; have d7 := b1.at 7 rfl; have d8 := b1.at 8 rfl; have d9 := b1.at 9 rfl; have d10 := b1.at 10 rfl; have d11 := b1.at 11 rfl; go_enter Tryz.func60, Tryz.ntmps60; go_wp2; go_ret; exact says_no (fun h => hno.out h.1) hB1
  subst e; have hB0 := ((Below.refl w.heap.size w).alloc (Nat.le_refl _) (.cells #[.string qu, .int .u64 idu, .string keyu, .bool duru, .bool redu, .string midu, .int .u8 uk, .int .u64 un, .string us, .slice uka uks.length ukc, .slice ula ul.length ulc, .string bodyu] 35)); have hB1 := hB0.alloc hB0.size (.cells #[.string qu, .int .u64 idu, .string keyx, .bool durx, .bool redx, .string midx, .int .u8 xk, .int .u64 xn, .string xs, .slice xka xks.length xkc, .slice xla xl.length xlc, .string bodyu] 35); have b0 := (Blk.new w [.string qu, .int .u64 idu, .string keyu, .bool duru, .bool redu, .string midu, .int .u8 uk, .int .u64 un, .string us, .slice uka uks.length ukc, .slice ula ul.length ulc, .string bodyu] 35).alloc (.cells #[.string qu, .int .u64 idu, .string keyx, .bool durx, .bool redx, .string midx, .int .u8 xk, .int .u64 xn, .string xs, .slice xka xks.length xkc, .slice xla xl.length xlc, .string bodyu] 35); have b1 := Blk.newK (w.alloc (.cells #[.string qu, .int .u64 idu, .string keyu, .bool duru, .bool redu, .string midu, .int .u8 uk, .int .u64 un, .string us, .slice uka uks.length ukc, .slice ula ul.length ulc, .string bodyu] 35)) [.string qu, .int .u64 idu, .string keyx, .bool durx, .bool redx, .string midx, .int .u8 xk, .int .u64 xn, .string xs, .slice xka xks.length xkc, .slice xla xl.length xlc, .string bodyu] 35 (w.heap.size + 1) (by simp); have c0 := b0.at 0 rfl; have c1 := b0.at 1 rfl; have c2 := b0.at 2 rfl; have c3 := b0.at 3 rfl; have c4 := b0.at 4 rfl; have c5 := b0.at 5 rfl; have c6 := b0.at 6 rfl; have c7 := b0.at 7 rfl; have c8 := b0.at 8 rfl; have c9 := b0.at 9 rfl; have c10 := b0.at 10 rfl; have c11 := b0.at 11 rfl; have d0 := b1.at 0 rfl; have d1 := b1.at 1 rfl; have d2 := b1.at 2 rfl; have d3 := b1.at 3 rfl; have d4 := b1.at 4 rfl; have d5 := b1.at 5 rfl; have d6 := b1.at 6 rfl; have d7 := b1.at 7 rfl; have d8 := b1.at 8 rfl; have d9 := b1.at 9 rfl; have d10 := b1.at 10 rfl; have d11 := b1.at 11 rfl; have R1 := hR.pure hB1; have X1 := hR2.pure hB1; go_enter Tryz.func60, Tryz.ntmps60; go_wp2_with (go_at_call 76; refine (d9same_any (PT.mk keyu duru redu midu (VT.mk uk un us (.slice uka uks.length ukc) (.slice ula ul.length ulc) uks ul)) (PT.mk keyx durx redx midx (VT.mk xk xn xs (.slice xka xks.length xkc) (.slice xla xl.length xlc) xks xl)) _ _ _ R1 X1).mono ?_; rintro e w3 ⟨⟨b, rfl, hb⟩, hB3⟩; have hbh := Lib.hid hb; clear hb; have hBz := hB1.trans (hB3.mono hB1.size)); go_ret; exact says_iff (by simpa using hbh.out) hBz
set_option maxRecDepth 100000 in
set_option maxHeartbeats 3200000 in
theorem dsamerefs_any (w : World) (ka va : Option Addr) (kc vc : Nat) (ks ks2 : List Rf) (hK : Slc rfEnc 2 w (.slice ka ks.length kc) ks) (hK2 : Slc rfEnc 2 w (.slice va ks2.length vc) ks2) (hmk : (ks.length : Int) ≤ 9223372036854775807) :
    Calls Tryz.prog 44 #[.slice ka ks.length kc, .slice va ks2.length vc] w (Says w.heap.size w (ks = ks2)) := by
  by_cases e : ks2.length = ks.length
  rotate_left 1
  · have h1 : ¬ (ks.length : Int) = (ks2.length : Int) := by omega
    have h2 : ((ks.length : Int) != (ks2.length : Int)) = true := bne_iff_ne.2 h1; have hno := Lib.hid (fun h : ks = ks2 => e (by rw [h])); clear e; go_enter Tryz.func44, Tryz.ntmps44; go_wp2; go_ret; exact says_no hno.out (Below.refl _ _)
  rw [e] at hK2 ⊢; have hkl := Lib.hid e; clear e; go_enter Tryz.func44, Tryz.ntmps44; go_wp2; go_loopw [5] (fun s5 wr => ∃ (k : Nat), k ≤ ks.length ∧ s5 = .int .i64 k ∧ Hid (ks.take k = ks2.take k) ∧ Below w.heap.size w wr) (fun s5 _ => ks.length - (intOf s5).toNat)
  case atStart => exact ⟨0, by omega, rfl, Lib.hid (by simp), Below.refl _ _⟩
  case round =>
    obtain ⟨k, hk, rfl, htk, hB⟩ := hrel; by_cases hlt : k < ks.length
    · have h1 : (k : Int) < (ks.length : Int) := by omega
      have hlt2 : k < ks2.length := by rw [hkl.out]; exact hlt
      have hKr := hK.pure hB; have hKr2 := hK2.pure hB; rw [← hkl.out] at hKr2; obtain ⟨kg, koff, rfl⟩ := hKr.addrB hlt; obtain ⟨vg, voff, rfl⟩ := hKr2.addrB hlt2; obtain ⟨q, i, hkx, c0, c1⟩ := rf_elem hKr hlt; obtain ⟨q2, i2, hvx, d0, d1⟩ := rf_elem hKr2 hlt2; obtain ⟨b, hb⟩ : ∃ b, (q == q2 && i == i2) = b := ⟨_, rfl⟩
      have hR := fun (u : World) => (rf_neq u q q2 i i2).trans (show _ = Result.ok (.bool (!b)) u by rw [hb])
      have hbe := rf_eqb q q2 i i2; rw [hb] at hbe
      have hno := Lib.hid (fun (hb : b = false) (h : ks = ks2) => show False by
        have h9 : ks[k] = ks2[k] := by simp [h]
        rw [hkx, hvx] at h9
        rw [hbe.2 h9] at hb; exact absurd hb (by simp))
      have hst := Lib.hid (fun (hb : b = true) => show ks.take (k + 1) = ks2.take (k + 1) by rw [List.take_succ_eq_append_getElem hlt, List.take_succ_eq_append_getElem hlt2, htk.out, hkx, hvx, hbe.1 hb]); clear hkx hvx hKr hKr2 hb hbe; cases b
      · have hno2 := Lib.hid (hno.out rfl); clear hno hst; go_wp2
        first | (go_region; go_wp2) | skip
        go_ret; exact says_no hno2.out (by first | exact hB | exact below_dr hB)
      · have hst2 := Lib.hid (hst.out rfl); clear hno hst; go_wp2
        first | (go_region; go_wp2) | skip
        go_roundw
        case rel => exact ⟨k + 1, by omega, by go_num, hst2, by first | exact hB | exact below_dr hB⟩
        case measure => simp [intOf]; omega
    · obtain rfl : k = ks.length := by omega
      have hks := Lib.hid (show ks = ks2 by have h := htk.out; rw [List.take_length, List.take_of_length_le (by rw [hkl.out]; exact Nat.le_refl _)] at h; exact h); go_wp2; go_ret; exact says_iff ⟨fun _ => hks.out, fun _ => rfl⟩ hB
theorem cell_kept {w w' : World} {p : Addr} {v : Value} (h : w.cell? p = some v) (hB : Below w.heap.size w w') : w'.cell? p = some v := by
  rw [World.cell?_of_block (w := w) (hB.block p.block (World.block_lt_of_cell? w p h)), h]
set_option maxRecDepth 100000 in
set_option maxHeartbeats 3200000 in
theorem dsameputs_any (w : World) (la xa : Option Addr) (lc xc : Nat) (l l2 : List PtT) (P P2 : Nat → Prop) (hL : Slc ptEnc 12 w (.slice la l.length lc) l) (hL2 : Slc ptEnc 12 w (.slice xa l2.length xc) l2) (hml : (l.length : Int) ≤ 9223372036854775807) (hsub : ∀ x ∈ l, Rd P w x.pr.app) (hsub2 : ∀ x ∈ l2, Rd P2 w x.pr.app) :
    Calls Tryz.prog 43 #[.slice la l.length lc, .slice xa l2.length xc] w (Says w.heap.size w (l.map PtT.p = l2.map PtT.p)) := by
  have hsubh := Lib.hid hsub; have hsub2h := Lib.hid hsub2; clear hsub hsub2; by_cases e : l2.length = l.length
  rotate_left 1
  · have h1 : ¬ (l.length : Int) = (l2.length : Int) := by omega
    have h2 : ((l.length : Int) != (l2.length : Int)) = true := bne_iff_ne.2 h1; have hno := Lib.hid (fun h : l.map PtT.p = l2.map PtT.p => e (by have := congrArg List.length h; simpa using this.symm)); clear e; go_enter Tryz.func43, Tryz.ntmps43; go_wp2; go_ret; exact says_no hno.out (Below.refl _ _)
  rw [e] at hL2 ⊢; have hll := Lib.hid e; clear e; go_enter Tryz.func43, Tryz.ntmps43; go_wp2; go_loopw [5] (fun s5 wr => ∃ (k : Nat), k ≤ l.length ∧ s5 = .int .i64 k ∧ Hid ((l.map PtT.p).take k = (l2.map PtT.p).take k) ∧ Below w.heap.size w wr) (fun s5 _ => l.length - (intOf s5).toNat)
  case atStart => exact ⟨0, by omega, rfl, Lib.hid (by simp), Below.refl _ _⟩
  case round =>
    obtain ⟨k, hk, rfl, htk, hB⟩ := hrel; by_cases hlt : k < l.length
    · have h1 : (k : Int) < (l.length : Int) := by omega
      have hlt2 : k < l2.length := by rw [hll.out]; exact hlt
      have hLr := hL.pure hB; have hLr2 := hL2.pure hB; rw [← hll.out] at hLr2; obtain ⟨g, off, rfl⟩ := hLr.addrB hlt; obtain ⟨g2, off2, rfl⟩ := hLr2.addrB hlt2; have hRk := (hsubh.out l[k] (List.getElem_mem hlt)).pure hB; have hRk2 := (hsub2h.out l2[k] (List.getElem_mem hlt2)).pure hB; obtain ⟨qu, idu, keyu, duru, redu, midu, uk, un, us, uka, ukc, ula, ulc, uks, ul, bodyu, hx, e0, e1, e2, e3, e4, e5, e6, e7, e8, e9, e10, e11⟩ := pt_elem hLr hlt hRk; obtain ⟨qx, idx, keyx, durx, redx, midx, xk, xn, xs, xka, xkc, xla, xlc, xks, xl, bodyx, hy, f0, f1, f2, f3, f4, f5, f6, f7, f8, f9, f10, f11⟩ := pt_elem hLr2 hlt2 hRk2; have hst := Lib.hid (fun e : l[k].p = l2[k].p => show (l.map PtT.p).take (k + 1) = (l2.map PtT.p).take (k + 1) by rw [List.take_succ_eq_append_getElem (by simpa using hlt), List.take_succ_eq_append_getElem (by simpa using hlt2), htk.out, List.getElem_map, List.getElem_map, e])
      have hno := Lib.hid (fun h : l.map PtT.p = l2.map PtT.p => show l[k].p = l2[k].p by
        have e1 : (l.map PtT.p)[k]? = (l2.map PtT.p)[k]? := by rw [h]
        rw [List.getElem?_map, List.getElem?_map, List.getElem?_eq_getElem hlt, List.getElem?_eq_getElem hlt2] at e1
        exact Option.some.inj e1)
      obtain ⟨b, hb0⟩ : ∃ b : Bool, b = true ↔ l[k].p = l2[k].p := by
        rcases Classical.em (l[k].p = l2[k].p) with h | h
        · exact ⟨true, ⟨fun _ => h, fun _ => rfl⟩⟩
        · exact ⟨false, ⟨fun e => absurd e (by decide), fun e => absurd e h⟩⟩
      have hih := Lib.hid (fun (u : World) (hu : Below wr.heap.size wr u) => (dsameput_any l[k] l2[k] P P2 u (hRk.pure hu) (hRk2.pure hu)).mono (fun e w' h => says_dec' h b hb0)); have hno2 := Lib.hid (fun (h : b = false) (h2 : l.map PtT.p = l2.map PtT.p) => show False by rw [hb0.2 (hno.out h2)] at h; exact absurd h (by simp)); have hst2 := Lib.hid (fun (h : b = true) => hst.out (hb0.1 h)); rw [hx, hy, PtT.arg_mk, PtT.arg_mk] at hih; have hE := Lib.hid (And.intro e0 (And.intro e1 (And.intro e2 (And.intro e3 (And.intro e4 (And.intro e5 (And.intro e6 (And.intro e7 (And.intro e8 (And.intro e9 (And.intro e10 e11))))))))))); have hF := Lib.hid (And.intro f0 (And.intro f1 (And.intro f2 (And.intro f3 (And.intro f4 (And.intro f5 (And.intro f6 (And.intro f7 (And.intro f8 (And.intro f9 (And.intro f10 f11))))))))))); clear hx hy hb0 hno hst hRk hRk2 hLr hLr2 e0 f0 e1 f1 e2 f2 e3 f3 e4 f4 e5 f5 e6 f6 e7 f7 e8 f8 e9 f9 e10 f10 e11 f11; go_wp2; have hb := below_refl_dr wr; refine wp_region_held_drew (S := fun u => Below wr.heap.size wr u) (by kernel_rfl) hb (fun hHeld => ?_); refine takeY 0 17 rfl rfl (v := ?_) ?_ hHeld ?_
      rotate_left 1
      · (intro u hSw; (try dsimp only at hSw); clear hSw; go_simp; (try with_reducible rfl))
      (try simp only [Act.put, lsT, lsZ, lsS]); refine takeY 1 18 rfl rfl (v := ?_) ?_ hHeld ?_
      rotate_left 1
      · (intro u hSw; (try dsimp only at hSw); clear hSw; go_simp; (try with_reducible rfl))
      (try simp only [Act.put, lsT, lsZ, lsS]); refine takeY 2 19 rfl rfl (v := ?_) ?_ hHeld ?_
      rotate_left 1
      · (intro u hSw; (try dsimp only at hSw); clear hSw; go_simp; (try with_reducible rfl))
      (try simp only [Act.put, lsT, lsZ, lsS]); refine takeY 3 20 rfl rfl (v := ?_) ?_ hHeld ?_
      rotate_left 1
      · (intro u hSw; (try dsimp only at hSw); obtain ⟨z0, z1, z2, z3, z4, z5, z6, z7, z8, z9, z10, z11⟩ := hE.out; have y0 := cell_kept z0 hSw; have y1 := cell_kept z1 hSw; have y2 := cell_kept z2 hSw; have y3 := cell_kept z3 hSw; have y4 := cell_kept z4 hSw; have y5 := cell_kept z5 hSw; have y6 := cell_kept z6 hSw; have y7 := cell_kept z7 hSw; have y8 := cell_kept z8 hSw; have y9 := cell_kept z9 hSw; have y10 := cell_kept z10 hSw; have y11 := cell_kept z11 hSw; clear z0 z1 z2 z3 z4 z5 z6 z7 z8 z9 z10 z11; clear hSw; go_simp; (try with_reducible rfl))
      (try simp only [Act.put, lsT, lsZ, lsS]); refine takeY 4 21 rfl rfl (v := ?_) ?_ hHeld ?_
      rotate_left 1
      · (intro u hSw; (try dsimp only at hSw); clear hSw; go_simp; (try with_reducible rfl))
      (try simp only [Act.put, lsT, lsZ, lsS]); refine takeY 5 22 rfl rfl (v := ?_) ?_ hHeld ?_
      rotate_left 1
      · (intro u hSw; (try dsimp only at hSw); clear hSw; go_simp; (try with_reducible rfl))
      (try simp only [Act.put, lsT, lsZ, lsS]); refine takeY 6 23 rfl rfl (v := ?_) ?_ hHeld ?_
      rotate_left 1
      · (intro u hSw; (try dsimp only at hSw); clear hSw; go_simp; (try with_reducible rfl))
      (try simp only [Act.put, lsT, lsZ, lsS]); refine takeY 7 24 rfl rfl (v := ?_) ?_ hHeld ?_
      rotate_left 1
      · (intro u hSw; (try dsimp only at hSw); obtain ⟨z0, z1, z2, z3, z4, z5, z6, z7, z8, z9, z10, z11⟩ := hF.out; have y0 := cell_kept z0 hSw; have y1 := cell_kept z1 hSw; have y2 := cell_kept z2 hSw; have y3 := cell_kept z3 hSw; have y4 := cell_kept z4 hSw; have y5 := cell_kept z5 hSw; have y6 := cell_kept z6 hSw; have y7 := cell_kept z7 hSw; have y8 := cell_kept z8 hSw; have y9 := cell_kept z9 hSw; have y10 := cell_kept z10 hSw; have y11 := cell_kept z11 hSw; clear z0 z1 z2 z3 z4 z5 z6 z7 z8 z9 z10 z11; clear hSw; go_simp; (try with_reducible rfl))
      (try simp only [Act.put, lsT, lsZ, lsS]); refine wpAnyH_ready (rs := [8]) (by kernel_rfl) (by simp) ?_; refine AllReadyH.cons rfl (fun K hK => ?_) AllReadyH.nil; go_simp; go_at_call 60
      with_reducible refine (hih.out _ hb).mono ?_
      rintro e w1 ⟨rfl, hB1⟩; have hb := hb.trans (hB1.mono hb.size); refine hK.out _ _ hb (fun hHeld => ?_); clear hK K; (try simp only [Act.put, lsT, lsZ, lsS]); refine takeY 9 26 rfl rfl (v := ?_) ?_ hHeld ?_
      rotate_left 1
      · (intro u hSw; (try dsimp only at hSw); clear hSw; go_simp; (try with_reducible rfl))
      (try simp only [Act.put, lsT, lsZ, lsS]); refine wpAnyH_done (by kernel_rfl) ?_ _; have hB3 := hB.trans (hb.mono hB.size); cases b
      · have hno3 := Lib.hid (hno2.out rfl); clear hno2 hst2; go_wp2; go_ret; exact says_no hno3.out hB3
      · have hst3 := Lib.hid (hst2.out rfl); clear hno2 hst2; go_wp2; go_roundw
        case rel => exact ⟨k + 1, by omega, by go_num, hst3, hB3⟩
        case measure => simp [intOf]; omega
    · obtain rfl : k = l.length := by omega
      have hls := Lib.hid (show l.map PtT.p = l2.map PtT.p by have h := htk.out; rw [List.take_of_length_le (by simp), List.take_of_length_le (by simp; rw [hll.out]; exact Nat.le_refl _)] at h; exact h); go_wp2; go_ret; exact says_iff ⟨fun _ => hls.out, fun _ => rfl⟩ hB
end Go.Proofs.YtlonokcaddpniaaGreatDoor
