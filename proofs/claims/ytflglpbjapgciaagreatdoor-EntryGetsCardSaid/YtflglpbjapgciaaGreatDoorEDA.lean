/- Entries: the document's MayPut. Condition: the queue's name is short enough to be in memory. Written by gen_edB.py. (Texts joined.) -/
import Derived.Test.YtflglpbjapgciaaGreatDoorEA
import Derived.Test.YtflglpbjapgciaaGreatDoorKC
import Derived.Test.YtflglpbjapgciaaGreatDoorPC
set_option linter.unusedSimpArgs false
set_option linter.unusedVariables false
namespace Go.Proofs.YtflglpbjapgciaaGreatDoor
open Go.RowKit
/-- Bytes as a string. -/
def bs (l : List UInt8) : ByteArray := ⟨l.toArray⟩
theorem bs_app (x y : List UInt8) : bs x ++ bs y = bs (x ++ y) := by
  apply ByteArray.ext; simp [bs, ByteArray.data_append]
theorem bs_data (s : ByteArray) : bs s.data.toList = s := by
  apply ByteArray.ext; simp [bs]
theorem bs_str (x : List UInt8) (s : ByteArray) : bs x ++ s = bs (x ++ s.data.toList) := by rw [← bs_app, bs_data]
theorem en_bs (e : En) : e.text = bs e.bytes := rfl
set_option maxRecDepth 100000 in
set_option maxHeartbeats 6400000 in
theorem row_any (w : World) (k : Int) : Calls Tryz.prog 28 #[.int .u8 k] w fun e w' => e = .returned (.tuple #[.bool (uN k), .bool (uM k), .bool (uX k), .bool (uW k), .bool (!(us k == 0))]) ∧ w = w' := by
  by_cases h1 : k = 1
  · subst h1; go_enter Tryz.func28, Tryz.ntmps28; go_wp2; refine bodyPost_ret (by simp [results, Tryz.results28, go_sem]; rfl) rfl ?_; exact ⟨rfl, rfl⟩
  by_cases h2 : k = 2
  · subst h2; go_enter Tryz.func28, Tryz.ntmps28; go_wp2; refine bodyPost_ret (by simp [results, Tryz.results28, go_sem]; rfl) rfl ?_; exact ⟨rfl, rfl⟩
  by_cases h3 : k = 3
  · subst h3; go_enter Tryz.func28, Tryz.ntmps28; go_wp2; refine bodyPost_ret (by simp [results, Tryz.results28, go_sem]; rfl) rfl ?_; exact ⟨rfl, rfl⟩
  by_cases h4 : k = 4
  · subst h4; go_enter Tryz.func28, Tryz.ntmps28; go_wp2; refine bodyPost_ret (by simp [results, Tryz.results28, go_sem]; rfl) rfl ?_; exact ⟨rfl, rfl⟩
  by_cases h5 : k = 5
  · subst h5; go_enter Tryz.func28, Tryz.ntmps28; go_wp2; refine bodyPost_ret (by simp [results, Tryz.results28, go_sem]; rfl) rfl ?_; exact ⟨rfl, rfl⟩
  by_cases h6 : k = 6
  · subst h6; go_enter Tryz.func28, Tryz.ntmps28; go_wp2; refine bodyPost_ret (by simp [results, Tryz.results28, go_sem]; rfl) rfl ?_; exact ⟨rfl, rfl⟩
  by_cases h7 : k = 7
  · subst h7; go_enter Tryz.func28, Tryz.ntmps28; go_wp2; refine bodyPost_ret (by simp [results, Tryz.results28, go_sem]; rfl) rfl ?_; exact ⟨rfl, rfl⟩
  by_cases h8 : k = 8
  · subst h8; go_enter Tryz.func28, Tryz.ntmps28; go_wp2; refine bodyPost_ret (by simp [results, Tryz.results28, go_sem]; rfl) rfl ?_; exact ⟨rfl, rfl⟩
  by_cases h9 : k = 9
  · subst h9; go_enter Tryz.func28, Tryz.ntmps28; go_wp2; refine bodyPost_ret (by simp [results, Tryz.results28, go_sem]; rfl) rfl ?_; exact ⟨rfl, rfl⟩
  have e0 : us k = 0 := by unfold us; simp only [h1, h2, h3, h4, h5, h6, h7, h8, h9, if_false, or_self]
  have b1 : (k == 1) = false := beq_eq_false_iff_ne.2 h1; have d1 : decide (k = 1) = false := decide_eq_false h1; have b2 : (k == 2) = false := beq_eq_false_iff_ne.2 h2; have d2 : decide (k = 2) = false := decide_eq_false h2; have b3 : (k == 3) = false := beq_eq_false_iff_ne.2 h3; have d3 : decide (k = 3) = false := decide_eq_false h3; have b4 : (k == 4) = false := beq_eq_false_iff_ne.2 h4; have d4 : decide (k = 4) = false := decide_eq_false h4; have b5 : (k == 5) = false := beq_eq_false_iff_ne.2 h5; have d5 : decide (k = 5) = false := decide_eq_false h5; have b6 : (k == 6) = false := beq_eq_false_iff_ne.2 h6; have d6 : decide (k = 6) = false := decide_eq_false h6; have b7 : (k == 7) = false := beq_eq_false_iff_ne.2 h7; have d7 : decide (k = 7) = false := decide_eq_false h7; have b8 : (k == 8) = false := beq_eq_false_iff_ne.2 h8; have d8 : decide (k = 8) = false := decide_eq_false h8; have b9 : (k == 9) = false := beq_eq_false_iff_ne.2 h9; have d9 : decide (k = 9) = false := decide_eq_false h9; have e0h := Lib.hid e0; clear e0; go_enter Tryz.func28, Tryz.ntmps28; go_wp2; refine bodyPost_ret (by simp [results, Tryz.results28, go_sem]; rfl) rfl ?_; exact ⟨by unfold uN uM uX uW; rw [e0h.out]; rfl, rfl⟩
theorem did_any (w : World) (n : Int) : Calls Tryz.prog 63 #[.int .u64 n] w fun e w' => e = .returned (.bool (idOk n)) ∧ w = w' := by
  unfold idOk; by_cases h1 : 1 ≤ n
  · have d1 : decide (1 ≤ n) = true := decide_eq_true h1; obtain ⟨b, hb⟩ : ∃ b, decide (n ≤ 1099511627776) = b := ⟨_, rfl⟩
    rw [d1, hb]; clear h1; go_enter Tryz.func63, Tryz.ntmps63; go_wp2; go_ret; exact ⟨by simp, rfl⟩
  · have d1 : decide (1 ≤ n) = false := decide_eq_false h1; rw [d1]; clear h1; go_enter Tryz.func63, Tryz.ntmps63; go_wp2; go_ret; exact ⟨by simp, rfl⟩
set_option maxRecDepth 100000 in
set_option maxHeartbeats 1600000 in
theorem dnum13_any (w : World) (n : Int) (wd : Nat) (hn : 0 ≤ n) (hn1 : Hid (n < 18446744073709551616)) (hw : Wd wd) : Calls Tryz.prog 29 #[.int .u64 n, .int .i64 wd] w fun e w' => e = .returned (.string (bs (be wd n.toNat))) ∧ Below w.heap.size w w' := by
  have hnum := dnumber_any w n wd hn hn1 hw; have hnh := Lib.hid hnum; clear hnum hn; go_enter Tryz.func29, Tryz.ntmps29; go_wp2_with (go_at_call 66; (with_reducible refine (hnh.out).mono ?_); rintro e w2 ⟨r, rfl, hO, hB⟩; have hcv := conv_str w2 _ _ (hO.slc byEnc_len)); go_ret; exact ⟨rfl, hB⟩
set_option maxRecDepth 100000 in
set_option maxHeartbeats 1600000 in
theorem dtext13_any (w : World) (s : ByteArray) (hs : s.size ≤ 255) : Calls Tryz.prog 30 #[.string s] w fun e w' => e = .returned (.string (bs (sT s))) ∧ Below w.heap.size w w' := by
  have hkw : IntKind.u8.wrap (s.size : Int) = (s.size : Int) := by
    have e : IntKind.u8.wrap (s.size : Int) = (s.size : Int) % 256 := rfl; rw [e]; omega
  have hkb : (s.size : Int) = ((UInt8.ofNat s.size).toNat : Int) := by rw [UInt8.toNat_ofNat']; omega
  have hB := (Below.refl w.heap.size w).alloc (Nat.le_refl _) (.cells #[.int .u8 (s.size : Int)] 5); have hcv := conv_str _ _ _ ((Own.byte1 w (UInt8.ofNat s.size) (s.size : Int) hkb (Nat.le_refl _)).slc byEnc_len); have hbs := Lib.hid (show (⟨[UInt8.ofNat s.size].toArray⟩ : ByteArray) ++ s = bs (sT s) from bs_str [UInt8.ofNat s.size] s); have hcl : ¬ 9223372036854775807 < 1 + s.size := by omega
  clear hs hkb; go_enter Tryz.func30, Tryz.ntmps30; go_wp2; go_ret; exact ⟨by rw [← hbs.out]; rfl, hB⟩
set_option maxRecDepth 100000 in
set_option maxHeartbeats 1600000 in
theorem dxcheck_any (w : World) (xf : Int) (xg xb : ByteArray) : Calls Tryz.prog 64 #[.agg #[.int .u32 xf, .string xg, .string xb]] w fun e w' => e = .returned (.int .i64 (if Xn.okB (xf, xg, xb) then 0 else 40)) ∧ Below w.heap.size w w' := by
  have hB := (Below.refl w.heap.size w).alloc (Nat.le_refl _) (.cells #[.int .u32 xf, .string xg, .string xb] 25); have A1 := Blk.new w [.int .u32 xf, .string xg, .string xb] 25; have a1 := A1.at 1 rfl; have a2 := A1.at 2 rfl; obtain ⟨k, hk⟩ : ∃ k, Xn.okB (xf, xg, xb) = k := ⟨_, rfl⟩
  rw [hk]; unfold Xn.okB at hk; by_cases h0 : 0 < xg.size
  · by_cases h1 : xg.size ≤ 64
    · by_cases h2 : xb.size ≤ 64
      · obtain rfl : true = k := by rw [← hk]; simp [h0, h1, h2]
        have f0 : ¬ ((xg.size : Int) < 1) := by omega
        have f0a : decide ((xg.size : Int) < 1) = false := decide_eq_false f0; have f1 : ¬ ((64 : Int) < (xg.size : Int)) := by omega
        have f1a : decide ((64 : Int) < (xg.size : Int)) = false := decide_eq_false f1; have f2 : ¬ ((64 : Int) < (xb.size : Int)) := by omega
        have f2a : decide ((64 : Int) < (xb.size : Int)) = false := decide_eq_false f2; clear hk h0 h1 h2; go_enter Tryz.func64, Tryz.ntmps64; go_wp2; go_ret; exact ⟨rfl, hB⟩
      · obtain rfl : false = k := by rw [← hk]; simp [h2]
        have f0 : ¬ ((xg.size : Int) < 1) := by omega
        have f0a : decide ((xg.size : Int) < 1) = false := decide_eq_false f0; have f1 : ¬ ((64 : Int) < (xg.size : Int)) := by omega
        have f1a : decide ((64 : Int) < (xg.size : Int)) = false := decide_eq_false f1; have f2 : ((64 : Int) < (xb.size : Int)) := by omega
        have f2a : decide ((64 : Int) < (xb.size : Int)) = true := decide_eq_true f2; clear hk h0 h1 h2; go_enter Tryz.func64, Tryz.ntmps64; go_wp2; go_ret; exact ⟨rfl, hB⟩
    · obtain rfl : false = k := by rw [← hk]; simp [h1]
      have f0 : ¬ ((xg.size : Int) < 1) := by omega
      have f0a : decide ((xg.size : Int) < 1) = false := decide_eq_false f0; have f1 : ((64 : Int) < (xg.size : Int)) := by omega
      have f1a : decide ((64 : Int) < (xg.size : Int)) = true := decide_eq_true f1; clear hk h0 h1; go_enter Tryz.func64, Tryz.ntmps64; go_wp2; go_ret; exact ⟨rfl, hB⟩
  · obtain rfl : false = k := by rw [← hk]; simp [h0]
    have f0 : ((xg.size : Int) < 1) := by omega
    have f0a : decide ((xg.size : Int) < 1) = true := decide_eq_true f0; clear hk h0; go_enter Tryz.func64, Tryz.ntmps64; go_wp2; go_ret; exact ⟨rfl, hB⟩
set_option maxRecDepth 100000 in
set_option maxHeartbeats 6400000 in
theorem dxput_any (w : World) (xf : Int) (xg xb : ByteArray) (h0 : 0 ≤ xf) (h1 : xf < 4294967296) (hk : Xn.okB (xf, xg, xb) = true) : Calls Tryz.prog 31 #[.agg #[.int .u32 xf, .string xg, .string xb]] w fun e w' => ∃ v, e = .returned (.tuple #[v, .int .i64 0]) ∧ Slc byEnc 1 w' v (Xn.bytes (xf, xg, xb)) ∧ Below w.heap.size w w' := by
  have hB1 := (Below.refl w.heap.size w).alloc (Nat.le_refl _) (.cells #[.int .u32 xf, .string xg, .string xb] 25); have A1 := Blk.new w [.int .u32 xf, .string xg, .string xb] 25; have hsz := Lib.hid (show xg.size ≤ 64 ∧ xb.size ≤ 64 by unfold Xn.okB at hk; simp at hk; omega); have hchk := dxcheck_any (w.alloc (.cells #[.int .u32 xf, .string xg, .string xb] 25)) xf xg xb; rw [hk, if_pos rfl] at hchk; have hckh := Lib.hid hchk
  have kg : IntKind.u8.wrap (xg.size : Int) = (xg.size : Int) := by
    have e : IntKind.u8.wrap (xg.size : Int) = (xg.size : Int) % 256 := rfl; have := hsz.out; rw [e]; omega
  have kb : IntKind.u8.wrap (xb.size : Int) = (xb.size : Int) := by
    have e : IntKind.u8.wrap (xb.size : Int) = (xb.size : Int) % 256 := rfl; have := hsz.out; rw [e]; omega
  have gb := Lib.hid (show (xg.size : Int) = ((UInt8.ofNat xg.size).toNat : Int) by have := hsz.out; rw [UInt8.toNat_ofNat']; omega); have bb := Lib.hid (show (xb.size : Int) = ((UInt8.ofNat xb.size).toNat : Int) by have := hsz.out; rw [UInt8.toNat_ofNat']; omega); have ku : IntKind.u64.wrap xf = xf := wrap_u64 _ (by omega) (by omega); have hf0 := Lib.hid h0; have hf1 := Lib.hid (show xf < 18446744073709551616 by omega); have hby := Lib.hid (show ((((be 4 xf.toNat) ++ [UInt8.ofNat xg.size]) ++ xg.data.toList) ++ [UInt8.ofNat xb.size]) ++ xb.data.toList = Xn.bytes (xf, xg, xb) by show _ = be 4 xf.toNat ++ ((UInt8.ofNat xg.size :: xg.data.toList) ++ (UInt8.ofNat xb.size :: xb.data.toList)); simp); obtain ⟨L3, h3⟩ : ∃ l, be 4 xf.toNat = l := ⟨_, rfl⟩
  obtain ⟨L4, h4⟩ : ∃ l, L3 ++ [UInt8.ofNat xg.size] = l := ⟨_, rfl⟩
  obtain ⟨L5, h5⟩ : ∃ l, L4 ++ xg.data.toList = l := ⟨_, rfl⟩
  obtain ⟨L6, h6⟩ : ∃ l, L5 ++ [UInt8.ofNat xb.size] = l := ⟨_, rfl⟩
  obtain ⟨L7, h7⟩ : ∃ l, L6 ++ xb.data.toList = l := ⟨_, rfl⟩
  have hby := Lib.hid (show L7 = Xn.bytes (xf, xg, xb) by rw [← hby.out, h3, h4, h5, h6, h7])
  have hll := Lib.hid (show L3.length ≤ 200 ∧ L4.length ≤ 200 ∧ L5.length ≤ 200 ∧ L6.length ≤ 200 by
    rw [← h6, ← h5, ← h4, ← h3]; simp only [be_len, List.length_append, List.length_cons, List.length_nil, ba_len]; have := hsz.out; omega)
  have h3h := Lib.hid h3; have h4h := Lib.hid h4; have h5h := Lib.hid h5; have h6h := Lib.hid h6; have h7h := Lib.hid h7; clear h3 h4 h5 h6 h7; have lg := Lib.hid (show xg.data.toList.length ≤ 64 by rw [ba_len]; exact hsz.out.1); have a0 := A1.at 0 rfl; have a1 := A1.at 1 rfl; have a2 := A1.at 2 rfl; have hsz1 := Lib.hid hB1.size; have hT1 := Below.refl (w.alloc (.cells #[.int .u32 xf, .string xg, .string xb] 25)).heap.size (w.alloc (.cells #[.int .u32 xf, .string xg, .string xb] 25)); clear hk hchk h0 h1; go_enter Tryz.func31, Tryz.ntmps31; go_upto_region 1 with fail; generalize World.alloc w _ = W1 at *; go_upto_region 4 with (first | (go_at_call 64; (with_reducible refine (hckh.out).mono ?_); rintro e w2 ⟨rfl, hT2⟩; have A2 := A1.pure hT2; clear a0 a1 a2; have a0 := A2.at 0 rfl; have a1 := A2.at 1 rfl; have a2 := A2.at 2 rfl) | (go_at_call 66; refine (dnumber_any _ xf 4 hf0.out hf1 (by unfold Wd; omega)).mono ?_; rintro e w3 ⟨r3, rfl, hO3, hB3⟩; have hT3 := hT2.trans (hB3.mono hT2.size); rw [h3h.out] at hO3; have hO3 := hO3.rebase (b' := W1.heap.size) (fun k e => Nat.le_trans hT2.size (hO3.ge e)); obtain ⟨ra3, rc3, rfl⟩ := own_lenB hO3; have A3 := A1.pure hT3; clear a0 a1 a2; have a0 := A3.at 0 rfl; have a1 := A3.at 1 rfl; have a2 := A3.at 2 rfl)); have hD4 := hT3.alloc hT3.size (.cells #[.int .u8 (xg.size : Int)] 5); have hOx4 := hO3.alloc (.cells #[.int .u8 (xg.size : Int)] 5); have hsx4 := (Own.byte1 w3 (UInt8.ofNat xg.size) (xg.size : Int) gb.out (Nat.le_refl _)).slc byEnc_len; go_upto_region 5 with (at_builtin; refine wpList_app (base := W1.heap.size) rfl (.tmp 12) (.tmp 17) 50 5 rfl elem_by byEnc_len byEnc_one _ L3 rfl hOx4 _ [UInt8.ofNat xg.size] rfl hsx4 (by have := hll.out; simp only [List.length_cons, List.length_nil]; unfold maxLen; omega) (by have := hll.out; simp only [List.length_cons, List.length_nil]; omega) hD4.size ?_; intro v4 w4 hO4 hgr4 hfr4 hsh4; rw [h4h.out] at hO4; have hT4 := hD4.grown hgr4 hD4.size (fun j e => hOx4.ge e); obtain ⟨ra4, rc4, rfl⟩ := own_lenB hO4; have A4 := A1.pure hT4; clear a0 a1 a2; have a0 := A4.at 0 rfl; have a1 := A4.at 1 rfl; have a2 := A4.at 2 rfl); go_upto_region 6 with (at_builtin; refine wpList_appS (base := W1.heap.size) rfl (.tmp 19) (.tmp 21) rfl _ L4 rfl hO4 xg rfl (by have := hll.out; have := hsz.out; omega) hT4.size ?_; intro v5 w5 hO5 hgr5; rw [h5h.out] at hO5; have hT5 := hT4.grown hgr5 hT4.size (fun j e => hO4.ge e); obtain ⟨ra5, rc5, rfl⟩ := own_lenB hO5; have A5 := A1.pure hT5; clear a0 a1 a2; have a0 := A5.at 0 rfl; have a1 := A5.at 1 rfl; have a2 := A5.at 2 rfl); have hD6 := hT5.alloc hT5.size (.cells #[.int .u8 (xb.size : Int)] 5); have hOx6 := hO5.alloc (.cells #[.int .u8 (xb.size : Int)] 5); have hsx6 := (Own.byte1 w5 (UInt8.ofNat xb.size) (xb.size : Int) bb.out (Nat.le_refl _)).slc byEnc_len; go_upto_region 7 with (at_builtin; refine wpList_app (base := W1.heap.size) rfl (.tmp 23) (.tmp 28) 50 5 rfl elem_by byEnc_len byEnc_one _ L5 rfl hOx6 _ [UInt8.ofNat xb.size] rfl hsx6 (by have := hll.out; simp only [List.length_cons, List.length_nil]; unfold maxLen; omega) (by have := hll.out; simp only [List.length_cons, List.length_nil]; omega) hD6.size ?_; intro v6 w6 hO6 hgr6 hfr6 hsh6; rw [h6h.out] at hO6; have hT6 := hD6.grown hgr6 hD6.size (fun j e => hOx6.ge e); obtain ⟨ra6, rc6, rfl⟩ := own_lenB hO6; have A6 := A1.pure hT6; clear a0 a1 a2; have a0 := A6.at 0 rfl; have a1 := A6.at 1 rfl; have a2 := A6.at 2 rfl); go_wp2_with (at_builtin; refine wpList_appS (base := W1.heap.size) rfl (.tmp 30) (.tmp 32) rfl _ L6 rfl hO6 xb rfl (by have := hll.out; have := hsz.out; omega) hT6.size ?_; intro v7 w7 hO7 hgr7; rw [h7h.out] at hO7; have hT7 := hT6.grown hgr7 hT6.size (fun j e => hO6.ge e); obtain ⟨ra7, rc7, rfl⟩ := own_lenB hO7; have A7 := A1.pure hT7; clear a0 a1 a2; have a0 := A7.at 0 rfl; have a1 := A7.at 1 rfl; have a2 := A7.at 2 rfl); go_ret2; exact ⟨_, rfl, by rw [← hby.out]; exact hO7.slc byEnc_len, hB1.trans (hT7.mono hsz1.out)⟩
def Pt.mayB (p : Pt) : Bool := qn p.q && (decide (p.id = 0) || idOk p.id) && p.pr.smallB && decide (p.body.size ≤ 4096)
theorem may_ok3 (p : Pt) : (p.mayB && !decide (p.id = 0)) = p.okB true := by
  unfold Pt.mayB Pt.okB; by_cases h : p.id = 0
  · have e : idOk p.id = false := by rw [h]; rfl
    rw [e, decide_eq_true h]; simp
  · rw [decide_eq_false h]; cases qn p.q <;> cases idOk p.id <;> cases p.pr.smallB <;> simp
theorem may_ok4 (p : Pt) : (p.mayB && decide (p.id = 0)) = p.okB false := by
  unfold Pt.mayB Pt.okB; by_cases h : p.id = 0
  · have e : idOk p.id = false := by rw [h]; rfl
    rw [e, decide_eq_true h]; cases qn p.q <;> cases p.pr.smallB <;> simp
  · rw [decide_eq_false h]; simp
set_option maxRecDepth 100000 in
set_option maxHeartbeats 6400000 in
theorem dmayput_any (t : PtT) (P : Nat → Prop) (w : World) (hR : Rd P w t.pr.app) (hqs : (t.q.size : Int) < 4611686018427387904) : Calls Tryz.prog 65 #[t.arg] w fun e w' => e = .returned (.bool t.p.mayB) ∧ Below w.heap.size w w' := by
  obtain ⟨q, id, ⟨key, dur, red, mid, uv⟩, body⟩ := t; have hR : Rd _ _ uv := hR; obtain ⟨uk, un, us, uka, ukc, ula, ulc, uks, ul, rfl, -⟩ := hR.open; rw [PtT.arg_mk]; have hqs := Lib.hid (show (q.size : Int) < 4611686018427387904 from hqs); have hB1 := (Below.refl w.heap.size w).alloc (Nat.le_refl _) (.cells #[.string q, .int .u64 id, .string key, .bool dur, .bool red, .string mid, .int .u8 uk, .int .u64 un, .string us, .slice uka uks.length ukc, .slice ula ul.length ulc, .string body] 64); have A1 := Blk.new w [.string q, .int .u64 id, .string key, .bool dur, .bool red, .string mid, .int .u8 uk, .int .u64 un, .string us, .slice uka uks.length ukc, .slice ula ul.length ulc, .string body] 64; have R1 := hR.pure hB1; have hput := d9put_any (PT.mk key dur red mid (VT.mk uk un us (.slice uka uks.length ukc) (.slice ula ul.length ulc) uks ul)) P _ R1; obtain ⟨px, hpx⟩ : ∃ px, (PT.mk key dur red mid (VT.mk uk un us (.slice uka uks.length ukc) (.slice ula ul.length ulc) uks ul)).p = px := ⟨_, rfl⟩
  obtain ⟨cx, hcx⟩ : ∃ cx, px.chk = cx := ⟨_, rfl⟩
  obtain ⟨tx, htx⟩ : ∃ tx, (if cx = 0 then px.text else (⟨#[]⟩ : ByteArray)) = tx := ⟨_, rfl⟩
  rw [hpx, hcx, htx, PT.arg_mk] at hput; have hputh := Lib.hid hput; obtain ⟨qb, hqb⟩ : ∃ b, qn q = b := ⟨_, rfl⟩
  obtain ⟨ib, hib⟩ : ∃ b, idOk id = b := ⟨_, rfl⟩
  obtain ⟨sb, hsb⟩ : ∃ b, px.smallB = b := ⟨_, rfl⟩
  have hok := Lib.hid (show (PtT.mk q id (PT.mk key dur red mid (VT.mk uk un us (.slice uka uks.length ukc) (.slice ula ul.length ulc) uks ul)) body).p.mayB = (qb && (decide (id = 0) || ib) && sb && decide (body.size ≤ 4096)) by rw [← hqb, ← hib, ← hsb, ← hpx]; rfl); have hqbh := Lib.hid hqb; have hibh := Lib.hid hib; have htxh := Lib.hid htx; have hcxh := Lib.hid hcx; have hsbh := Lib.hid hsb; clear hput hpx hcx htx hqb hib hsb; have a0 := A1.at 0 rfl; have a1 := A1.at 1 rfl; have a2 := A1.at 2 rfl; have a3 := A1.at 3 rfl; have a4 := A1.at 4 rfl; have a5 := A1.at 5 rfl; have a6 := A1.at 6 rfl; have a7 := A1.at 7 rfl; have a8 := A1.at 8 rfl; have a9 := A1.at 9 rfl; have a10 := A1.at 10 rfl; have a11 := A1.at 11 rfl; go_enter Tryz.func65, Tryz.ntmps65; go_upto_region 2 with (go_at_call 32; (with_reducible refine (hputh.out).mono ?_); rintro e w2 ⟨rfl, hB2⟩; have A2 := A1.pure hB2; have hT2 := hB1.trans (hB2.mono hB1.size)); clear a0 a1 a2 a3 a4 a5 a6 a7 a8 a9 a10 a11; have a0 := A2.at 0 rfl; have a1 := A2.at 1 rfl; have a2 := A2.at 2 rfl; have a3 := A2.at 3 rfl; have a4 := A2.at 4 rfl; have a5 := A2.at 5 rfl; have a6 := A2.at 6 rfl; have a7 := A2.at 7 rfl; have a8 := A2.at 8 rfl; have a9 := A2.at 9 rfl; have a10 := A2.at 10 rfl; have a11 := A2.at 11 rfl; cases qb
  · skip; go_wp2_with (first | (go_at_call 62; (with_reducible refine (dqname_any _ q hqs.out).mono ?_); rintro e w3 ⟨he, hB3⟩; rw [hqbh.out] at he; subst he; have A3 := A2.pure hB3; have hT3 := hT2.trans (hB3.mono hT2.size); have b0 := A3.at 0 rfl; have b1 := A3.at 1 rfl; have b2 := A3.at 2 rfl; have b3 := A3.at 3 rfl; have b4 := A3.at 4 rfl; have b5 := A3.at 5 rfl; have b6 := A3.at 6 rfl; have b7 := A3.at 7 rfl; have b8 := A3.at 8 rfl; have b9 := A3.at 9 rfl; have b10 := A3.at 10 rfl; have b11 := A3.at 11 rfl) | (go_at_call 63; (with_reducible refine (did_any _ _).mono ?_); rintro e w4 ⟨he, rfl⟩; rw [hibh.out] at he; subst he)); go_ret; exact ⟨by rw [hok.out]; simp, hT3⟩
  by_cases hz : id = 0
  · subst hz; have hid := Lib.hid (show decide ((0 : Int) = 0) = true from rfl); by_cases hc : cx = 0
    rotate_left 1
    · have g1 : (cx == 0) = false := beq_eq_false_iff_ne.2 hc; have hs := Lib.hid (show sb = false by rw [← hsbh.out]; unfold Pr.smallB; rw [decide_eq_false (by rw [hcxh.out]; exact hc)]; rfl); clear hc; go_wp2_with (first | (go_at_call 62; (with_reducible refine (dqname_any _ q hqs.out).mono ?_); rintro e w3 ⟨he, hB3⟩; rw [hqbh.out] at he; subst he; have A3 := A2.pure hB3; have hT3 := hT2.trans (hB3.mono hT2.size); have b0 := A3.at 0 rfl; have b1 := A3.at 1 rfl; have b2 := A3.at 2 rfl; have b3 := A3.at 3 rfl; have b4 := A3.at 4 rfl; have b5 := A3.at 5 rfl; have b6 := A3.at 6 rfl; have b7 := A3.at 7 rfl; have b8 := A3.at 8 rfl; have b9 := A3.at 9 rfl; have b10 := A3.at 10 rfl; have b11 := A3.at 11 rfl) | (go_at_call 63; (with_reducible refine (did_any _ _).mono ?_); rintro e w4 ⟨he, rfl⟩; rw [hibh.out] at he; subst he)); go_ret; exact ⟨by rw [hok.out]; rw [hs.out]; simp, hT3⟩
    subst hc; have hl := Lib.hid (show tx.size = px.bytes.length by have h := htxh.out; rw [if_pos rfl] at h; rw [← h]; rfl); by_cases hz : tx.size ≤ 8192
    rotate_left 1
    · have g2 : decide ((tx.size : Int) ≤ 8192) = false := decide_eq_false (by omega); have g3 : ¬ (tx.size : Int) ≤ 8192 := by omega
      have hs := Lib.hid (show sb = false by rw [← hsbh.out]; unfold Pr.smallB; rw [decide_eq_false (show ¬ px.bytes.length ≤ 8192 by rw [← hl.out]; exact hz)]; simp); clear hz; go_wp2_with (first | (go_at_call 62; (with_reducible refine (dqname_any _ q hqs.out).mono ?_); rintro e w3 ⟨he, hB3⟩; rw [hqbh.out] at he; subst he; have A3 := A2.pure hB3; have hT3 := hT2.trans (hB3.mono hT2.size); have b0 := A3.at 0 rfl; have b1 := A3.at 1 rfl; have b2 := A3.at 2 rfl; have b3 := A3.at 3 rfl; have b4 := A3.at 4 rfl; have b5 := A3.at 5 rfl; have b6 := A3.at 6 rfl; have b7 := A3.at 7 rfl; have b8 := A3.at 8 rfl; have b9 := A3.at 9 rfl; have b10 := A3.at 10 rfl; have b11 := A3.at 11 rfl) | (go_at_call 63; (with_reducible refine (did_any _ _).mono ?_); rintro e w4 ⟨he, rfl⟩; rw [hibh.out] at he; subst he)); go_ret; exact ⟨by rw [hok.out]; rw [hs.out]; simp, hT3⟩
    have g2 : decide ((tx.size : Int) ≤ 8192) = true := decide_eq_true (by omega); have g3 : (tx.size : Int) ≤ 8192 := by omega
    have hs := Lib.hid (show sb = true by rw [← hsbh.out]; unfold Pr.smallB; rw [decide_eq_true hcxh.out, decide_eq_true (show px.bytes.length ≤ 8192 by rw [← hl.out]; exact hz)]; rfl); clear hz; by_cases hb : body.size ≤ 4096
    · have g4 : decide ((body.size : Int) ≤ 4096) = true := decide_eq_true (by omega); have g5 : (body.size : Int) ≤ 4096 := by omega
      have hbb := Lib.hid (show decide (body.size ≤ 4096) = true from decide_eq_true hb); clear hb; go_wp2_with (first | (go_at_call 62; (with_reducible refine (dqname_any _ q hqs.out).mono ?_); rintro e w3 ⟨he, hB3⟩; rw [hqbh.out] at he; subst he; have A3 := A2.pure hB3; have hT3 := hT2.trans (hB3.mono hT2.size); have b0 := A3.at 0 rfl; have b1 := A3.at 1 rfl; have b2 := A3.at 2 rfl; have b3 := A3.at 3 rfl; have b4 := A3.at 4 rfl; have b5 := A3.at 5 rfl; have b6 := A3.at 6 rfl; have b7 := A3.at 7 rfl; have b8 := A3.at 8 rfl; have b9 := A3.at 9 rfl; have b10 := A3.at 10 rfl; have b11 := A3.at 11 rfl) | (go_at_call 63; (with_reducible refine (did_any _ _).mono ?_); rintro e w4 ⟨he, rfl⟩; rw [hibh.out] at he; subst he)); go_ret; exact ⟨by rw [hok.out]; rw [hs.out, hbb.out]; simp, hT3⟩
    · have g4 : decide ((body.size : Int) ≤ 4096) = false := decide_eq_false (by omega); have g5 : ¬ (body.size : Int) ≤ 4096 := by omega
      have hbb := Lib.hid (show decide (body.size ≤ 4096) = false from decide_eq_false hb); clear hb; go_wp2_with (first | (go_at_call 62; (with_reducible refine (dqname_any _ q hqs.out).mono ?_); rintro e w3 ⟨he, hB3⟩; rw [hqbh.out] at he; subst he; have A3 := A2.pure hB3; have hT3 := hT2.trans (hB3.mono hT2.size); have b0 := A3.at 0 rfl; have b1 := A3.at 1 rfl; have b2 := A3.at 2 rfl; have b3 := A3.at 3 rfl; have b4 := A3.at 4 rfl; have b5 := A3.at 5 rfl; have b6 := A3.at 6 rfl; have b7 := A3.at 7 rfl; have b8 := A3.at 8 rfl; have b9 := A3.at 9 rfl; have b10 := A3.at 10 rfl; have b11 := A3.at 11 rfl) | (go_at_call 63; (with_reducible refine (did_any _ _).mono ?_); rintro e w4 ⟨he, rfl⟩; rw [hibh.out] at he; subst he)); go_ret; exact ⟨by rw [hok.out]; rw [hbb.out]; simp, hT3⟩
  have z1 : (id == 0) = false := beq_eq_false_iff_ne.2 hz; have hid := Lib.hid (show decide (id = 0) = false from decide_eq_false hz); cases ib
  · skip; go_wp2_with (first | (go_at_call 62; (with_reducible refine (dqname_any _ q hqs.out).mono ?_); rintro e w3 ⟨he, hB3⟩; rw [hqbh.out] at he; subst he; have A3 := A2.pure hB3; have hT3 := hT2.trans (hB3.mono hT2.size); have b0 := A3.at 0 rfl; have b1 := A3.at 1 rfl; have b2 := A3.at 2 rfl; have b3 := A3.at 3 rfl; have b4 := A3.at 4 rfl; have b5 := A3.at 5 rfl; have b6 := A3.at 6 rfl; have b7 := A3.at 7 rfl; have b8 := A3.at 8 rfl; have b9 := A3.at 9 rfl; have b10 := A3.at 10 rfl; have b11 := A3.at 11 rfl) | (go_at_call 63; (with_reducible refine (did_any _ _).mono ?_); rintro e w4 ⟨he, rfl⟩; rw [hibh.out] at he; subst he)); go_ret; exact ⟨by rw [hok.out]; rw [hid.out]; simp, hT3⟩
  by_cases hc : cx = 0
  rotate_left 1
  · have g1 : (cx == 0) = false := beq_eq_false_iff_ne.2 hc; have hs := Lib.hid (show sb = false by rw [← hsbh.out]; unfold Pr.smallB; rw [decide_eq_false (by rw [hcxh.out]; exact hc)]; rfl); clear hc; go_wp2_with (first | (go_at_call 62; (with_reducible refine (dqname_any _ q hqs.out).mono ?_); rintro e w3 ⟨he, hB3⟩; rw [hqbh.out] at he; subst he; have A3 := A2.pure hB3; have hT3 := hT2.trans (hB3.mono hT2.size); have b0 := A3.at 0 rfl; have b1 := A3.at 1 rfl; have b2 := A3.at 2 rfl; have b3 := A3.at 3 rfl; have b4 := A3.at 4 rfl; have b5 := A3.at 5 rfl; have b6 := A3.at 6 rfl; have b7 := A3.at 7 rfl; have b8 := A3.at 8 rfl; have b9 := A3.at 9 rfl; have b10 := A3.at 10 rfl; have b11 := A3.at 11 rfl) | (go_at_call 63; (with_reducible refine (did_any _ _).mono ?_); rintro e w4 ⟨he, rfl⟩; rw [hibh.out] at he; subst he)); go_ret; exact ⟨by rw [hok.out]; rw [hs.out]; simp, hT3⟩
  subst hc; have hl := Lib.hid (show tx.size = px.bytes.length by have h := htxh.out; rw [if_pos rfl] at h; rw [← h]; rfl); by_cases hz : tx.size ≤ 8192
  rotate_left 1
  · have g2 : decide ((tx.size : Int) ≤ 8192) = false := decide_eq_false (by omega); have g3 : ¬ (tx.size : Int) ≤ 8192 := by omega
    have hs := Lib.hid (show sb = false by rw [← hsbh.out]; unfold Pr.smallB; rw [decide_eq_false (show ¬ px.bytes.length ≤ 8192 by rw [← hl.out]; exact hz)]; simp); clear hz; go_wp2_with (first | (go_at_call 62; (with_reducible refine (dqname_any _ q hqs.out).mono ?_); rintro e w3 ⟨he, hB3⟩; rw [hqbh.out] at he; subst he; have A3 := A2.pure hB3; have hT3 := hT2.trans (hB3.mono hT2.size); have b0 := A3.at 0 rfl; have b1 := A3.at 1 rfl; have b2 := A3.at 2 rfl; have b3 := A3.at 3 rfl; have b4 := A3.at 4 rfl; have b5 := A3.at 5 rfl; have b6 := A3.at 6 rfl; have b7 := A3.at 7 rfl; have b8 := A3.at 8 rfl; have b9 := A3.at 9 rfl; have b10 := A3.at 10 rfl; have b11 := A3.at 11 rfl) | (go_at_call 63; (with_reducible refine (did_any _ _).mono ?_); rintro e w4 ⟨he, rfl⟩; rw [hibh.out] at he; subst he)); go_ret; exact ⟨by rw [hok.out]; rw [hs.out]; simp, hT3⟩
  have g2 : decide ((tx.size : Int) ≤ 8192) = true := decide_eq_true (by omega); have g3 : (tx.size : Int) ≤ 8192 := by omega
  have hs := Lib.hid (show sb = true by rw [← hsbh.out]; unfold Pr.smallB; rw [decide_eq_true hcxh.out, decide_eq_true (show px.bytes.length ≤ 8192 by rw [← hl.out]; exact hz)]; rfl); clear hz; by_cases hb : body.size ≤ 4096
  · have g4 : decide ((body.size : Int) ≤ 4096) = true := decide_eq_true (by omega); have g5 : (body.size : Int) ≤ 4096 := by omega
    have hbb := Lib.hid (show decide (body.size ≤ 4096) = true from decide_eq_true hb); clear hb; go_wp2_with (first | (go_at_call 62; (with_reducible refine (dqname_any _ q hqs.out).mono ?_); rintro e w3 ⟨he, hB3⟩; rw [hqbh.out] at he; subst he; have A3 := A2.pure hB3; have hT3 := hT2.trans (hB3.mono hT2.size); have b0 := A3.at 0 rfl; have b1 := A3.at 1 rfl; have b2 := A3.at 2 rfl; have b3 := A3.at 3 rfl; have b4 := A3.at 4 rfl; have b5 := A3.at 5 rfl; have b6 := A3.at 6 rfl; have b7 := A3.at 7 rfl; have b8 := A3.at 8 rfl; have b9 := A3.at 9 rfl; have b10 := A3.at 10 rfl; have b11 := A3.at 11 rfl) | (go_at_call 63; (with_reducible refine (did_any _ _).mono ?_); rintro e w4 ⟨he, rfl⟩; rw [hibh.out] at he; subst he)); go_ret; exact ⟨by rw [hok.out]; rw [hs.out, hbb.out, hid.out]; simp, hT3⟩
  · have g4 : decide ((body.size : Int) ≤ 4096) = false := decide_eq_false (by omega); have g5 : ¬ (body.size : Int) ≤ 4096 := by omega
    have hbb := Lib.hid (show decide (body.size ≤ 4096) = false from decide_eq_false hb); clear hb; go_wp2_with (first | (go_at_call 62; (with_reducible refine (dqname_any _ q hqs.out).mono ?_); rintro e w3 ⟨he, hB3⟩; rw [hqbh.out] at he; subst he; have A3 := A2.pure hB3; have hT3 := hT2.trans (hB3.mono hT2.size); have b0 := A3.at 0 rfl; have b1 := A3.at 1 rfl; have b2 := A3.at 2 rfl; have b3 := A3.at 3 rfl; have b4 := A3.at 4 rfl; have b5 := A3.at 5 rfl; have b6 := A3.at 6 rfl; have b7 := A3.at 7 rfl; have b8 := A3.at 8 rfl; have b9 := A3.at 9 rfl; have b10 := A3.at 10 rfl; have b11 := A3.at 11 rfl) | (go_at_call 63; (with_reducible refine (did_any _ _).mono ?_); rintro e w4 ⟨he, rfl⟩; rw [hibh.out] at he; subst he)); go_ret; exact ⟨by rw [hok.out]; rw [hbb.out]; simp, hT3⟩
end Go.Proofs.YtflglpbjapgciaaGreatDoor
