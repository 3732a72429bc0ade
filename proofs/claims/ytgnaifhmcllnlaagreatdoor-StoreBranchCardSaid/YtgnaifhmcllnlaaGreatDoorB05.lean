/- The program's reader of values, where it does not fail: 'read', where what 'many' does is given. Conditions: at most 200 values are left. Written by gen_getY.py. (Texts joined.) -/
import Derived.Test.YtgnaifhmcllnlaaGreatDoorB04
set_option maxRecDepth 100000
set_option maxHeartbeats 12800000
set_option linter.unusedSimpArgs false
set_option linter.unusedVariables false
namespace Go.Proofs.YtgnaifhmcllnlaaGreatDoor
open Go.RowKit Tryz
theorem toQ (w : World) (b : Nat) (name : ByteArray) (lim : Int) (ma : Option Addr) (mn mc : Nat) (y : ByteArray) (hb : Blk w b [.string y]) : Calls prog 138 #[.agg #[.string name, .int .u64 lim, .slice ma mn mc], .pointer (some ⟨b, 0, none⟩)] w fun e w' => e = .returned (.int .i64 (abf name y)) ∧ Below w.heap.size w w' := by
 have hB := (qz w.heap.size w).alloc (qj _) (.cells #[.string name, .int .u64 lim, .slice ma mn mc] 51)
 have A := Blk.new w [.string name, .int .u64 lim, .slice ma mn mc] 51; have B := hb.alloc (.cells #[.string name, .int .u64 lim, .slice ma mn mc] 51)
 obtain ⟨c0, c1, c2⟩ := A.a3; have d0 := B.at 0 rfl
 go_enter func138, ntmps138
 go_wp2_with (go_at_call 114; refine (apa _ _ _).mono ?_; rintro e w' ⟨rfl, rfl⟩)
 go_ret
 exact ⟨rfl, hB⟩
theorem fcQ (w : World) (b fb : Nat) (name : ByteArray) (lim : Int) (ma : Option Addr) (mn mc : Nat) (y : ByteArray) (hb : Blk w b [.string y]) (hf : Blk w fb [.func (.func 138) #[] #[.pointer (some ⟨b, 0, none⟩)]]) : Calls prog 175 #[.agg #[.string name, .int .u64 lim, .slice ma mn mc], .agg #[], .pointer (some ⟨fb, 0, none⟩)] w fun e w' => e = .returned (.int .i64 (abf name y)) ∧ Below w.heap.size w w' := by
 have hB := ((qz w.heap.size w).alloc (qj _) (.cells #[.string name, .int .u64 lim, .slice ma mn mc] 51)).alloc (by simp) (.cells #[] 183)
 have A := (Blk.new w [.string name, .int .u64 lim, .slice ma mn mc] 51).alloc (.cells #[] 183); have B := (hb.alloc (.cells #[.string name, .int .u64 lim, .slice ma mn mc] 51)).alloc (.cells #[] 183); have F := (hf.alloc (.cells #[.string name, .int .u64 lim, .slice ma mn mc] 51)).alloc (.cells #[] 183)
 obtain ⟨c0, c1, c2⟩ := A.a3; have f0 := F.at 0 rfl
 go_enter func175, ntmps175
 go_wp2_with (go_at_call 138; (with_reducible refine (toQ _ b name lim ma mn mc y B).mono ?_); rintro e w1 ⟨rfl, hB1⟩; have hB := hB.trans (hB1.mono hB.size))
 go_ret
 exact ⟨rfl, hB⟩
theorem afi {P : Prop} (h : P := by
 go_wp2
 go_roundw
 case rel => exact ⟨(lo + hi) / 2 + 1, hi, by omega, by omega, by go_num, rfl, hlow, k2, hB3, hZ3⟩
 case measure => simp [intOf]; omega) : P := h
theorem afj {P : Prop} (h : P := by
 go_wp2
 go_roundw
 case rel => exact ⟨lo, (lo + hi) / 2, by omega, by omega, rfl, rfl, k1, hhigh, hB3, hZ3⟩
 case measure => simp [intOf]; omega) : P := h
theorem afk {P : Prop} (h : P := by
 go_wp2
 go_quiet (fail)
 go_wp2
 go_ret2
 exact ⟨by rw [hend.out.1, hfd.out]; rfl, atx hB _⟩) : P := h
theorem aeq {P : Prop} (h : P := by
 go_wp2
 go_ret2
 exact ⟨by rw [hend.out.1, hfd.out]; rfl, hB3⟩) : P := h
theorem bd5 (w : World) (v : Value) (L : List QuT) (b fb : Nat) (y : ByteArray) (hs : Slc aar 3 w v L) (P : Nat → Prop) (hE : ∀ q ∈ L, MsRd P w q.mv q.zw) (hr : RisK abf QuT.name L) (hL : L.length ≤ 1000000) (hb : Blk w b [.string y]) (hf : Blk w fb [.func (.func 138) #[] #[.pointer (some ⟨b, 0, none⟩)]]) :
 Calls prog 174 #[v, .agg #[], .func (.func 175) #[] #[.pointer (some ⟨fb, 0, none⟩)]] w fun e w' => e = .returned (.tuple #[.int .i64 (lbK abf QuT.name L y : Nat), .bool (acv abf QuT.name L y)]) ∧ Below w.heap.size w w' := by
 obtain ⟨va, cap, rfl, hm⟩ := hs.len
 unfold maxLen at hm
 have hr := qq hr
 have hE := qq hE
 have hF := fun (u : World) (h : Below w.heap.size w u) (name : ByteArray) (lim : Int) (ma : Option Addr) (mn mc : Nat) => fcQ u b fb name lim ma mn mc y (hb.pure h) (hf.pure h)
 have hF := qq hF
 have hB1 := (qz w.heap.size w).alloc (qj _) (.cells #[] 183)
 obtain ⟨W0, hW0⟩ := zj (w.alloc (.cells #[] 183))
 have hZ : Blk W0 w.heap.size [] := by rw [hW0]; exact Blk.new w [] 183
 rw [← hW0] at hB1
 clear hb hf
 go_enter func174, ntmps174
 go_wp2
 rw [← hW0]
 clear hW0
 have hlm : (L.length : Int) ≤ 1000000 := by omega
 go_loopw [9, 10] (fun s9 s10 wr => ∃ lo hi : Nat, lo ≤ hi ∧ hi ≤ L.length ∧ s9 = .int .i64 lo ∧ s10 = .int .i64 hi ∧ Hid (∀ j, (h : j < L.length) → j < lo → abf (QuT.name L[j]) y < 0) ∧ Hid (∀ j, (h : j < L.length) → hi ≤ j → 0 ≤ abf (QuT.name L[j]) y) ∧ Below w.heap.size w wr ∧ Blk wr w.heap.size []) (fun s9 s10 _ => (intOf s10 - intOf s9).toNat)
 case atStart => exact ⟨0, L.length, by omega, by omega, rfl, rfl, qq (fun j h h' => jp h' (by omega)), qq (fun j h h' => jp h' (by omega)), hB1, hZ⟩
 case round =>
  obtain ⟨lo, hi, hlh, hhl, rfl, rfl, k1, k2, hB⟩ := hrel; obtain ⟨hB, hZr⟩ := hB; clear hZ hB1; have hsr0 := hs.pure hB; have hsrh := qq hsr0; clear hsr0; by_cases hlt : lo < hi
  ·have hmd : (lo + hi) / 2 < L.length := by omega
   have hmi : (0 : Int) ≤ ((lo + hi) / 2 : Nat) := by omega
   have hmi2 : (((lo + hi) / 2 : Nat) : Int) < (L.length : Int) := by omega
   have hmi3 : (0 : Int) ≤ ((lo : Int) + (hi : Int)) / 2 := by omega
   have hmi4 : ((lo : Int) + (hi : Int)) / 2 < (L.length : Int) := by omega
   have htn : (((lo : Int) + (hi : Int)) / 2).toNat = (lo + hi) / 2 := by omega
   have hsr := hsrh.out; obtain ⟨g, off, rfl⟩ := hsr.addrB hmd; have hE1 := fun x hx => (hE.out x hx).pure hB
   obtain ⟨name, lim, ma, mc, zw, hx, -⟩ := aep hsr hmd (hE1 _ (qy hmd)); have hxh := qq hx; have hkx : QuT.name L[(lo + hi) / 2] = name := by rw [hx]
   have hF1 := fun (u : World) (h : Below w.heap.size w u) => hF.out u h name lim ma zw.length mc
   clear hx hE1; obtain ⟨cc, hcc⟩ := zz (abf (QuT.name L[(lo + hi) / 2]) y); have hcc2 : abf name y = cc := by rw [← hcc, hkx]
   rw [hcc2] at hF1; clear hcc2 hkx; have hF1h := qq hF1; have hcch := qq hcc; clear hF1 hcc hsr; by_cases hq : cc < 0
   ·have hlow := qq (amg cmpB_ok hr.out hmd (by rw [hcch.out]; exact hq))
    obtain ⟨c0, c1, c2⟩ := aby hsrh.out hmd hxh.out; go_wp2; go_region_held3 (fun w' => w'.cell? ⟨g, off + (lo + hi) / 2 * 3, none⟩ = some (.string name) ∧ w'.cell? ⟨g, off + (lo + hi) / 2 * 3 + 1, none⟩ = some (.int .u64 lim) ∧ w'.cell? ⟨g, off + (lo + hi) / 2 * 3 + 2, none⟩ = some (.slice ma zw.length mc)) (first | exact ⟨c0, c1, c2⟩ | exact ⟨d0, d1, d2⟩) ((go_at_call 175; (with_reducible refine (hF1h.out _ (aad hB)).mono ?_); rintro e w1 ⟨rfl, hB2⟩; obtain ⟨d0, d1, d2⟩ := aby (hsrh.out.drew.pure hB2) hmd hxh.out; have hB3 := (aad hB).trans (hB2.mono hB.size); have hZ3 := hZr.drew.pure hB2; clear c0 c1 c2)); exact afi
   ·have hhigh := qq (aij cmpB_ok hr.out hmd (by rw [hcch.out]; exact hq))
    obtain ⟨c0, c1, c2⟩ := aby hsrh.out hmd hxh.out; go_wp2; go_region_held3 (fun w' => w'.cell? ⟨g, off + (lo + hi) / 2 * 3, none⟩ = some (.string name) ∧ w'.cell? ⟨g, off + (lo + hi) / 2 * 3 + 1, none⟩ = some (.int .u64 lim) ∧ w'.cell? ⟨g, off + (lo + hi) / 2 * 3 + 2, none⟩ = some (.slice ma zw.length mc)) (first | exact ⟨c0, c1, c2⟩ | exact ⟨d0, d1, d2⟩) ((go_at_call 175; (with_reducible refine (hF1h.out _ (aad hB)).mono ?_); rintro e w1 ⟨rfl, hB2⟩; obtain ⟨d0, d1, d2⟩ := aby (hsrh.out.drew.pure hB2) hmd hxh.out; have hB3 := (aad hB).trans (hB2.mono hB.size); have hZ3 := hZr.drew.pure hB2; clear c0 c1 c2)); exact afj
  ·obtain rfl : lo = hi := by omega
   have hend := qq (amh cmpB_ok hr.out hhl k1.out k2.out); clear k1 k2 hlh; by_cases hll : lo < L.length
   ·have hmi : (0 : Int) ≤ (lo : Int) := by omega
    have hmi2 : (lo : Int) < (L.length : Int) := by omega
    have hsr := hsrh.out; obtain ⟨g, off, rfl⟩ := hsr.addrB hll; have hE1 := fun x hx => (hE.out x hx).pure hB
    obtain ⟨name, lim, ma, mc, zw, hx, -⟩ := aep hsr hll (hE1 _ (qy hll)); have hxh := qq hx; have hkx : QuT.name L[lo] = name := by rw [hx]
    have hF1 := fun (u : World) (h : Below w.heap.size w u) => hF.out u h name lim ma zw.length mc
    clear hx hE1; obtain ⟨cc, hcc⟩ := zz (abf (QuT.name L[lo]) y)
    have hfd := qq (show acv abf QuT.name L y = (cc == 0) by
     rw [hend.out.2, ← hcc, Bool.eq_iff_iff, qm, beq_iff_eq]
     exact ⟨fun h => h.2, fun h => ⟨hll, h⟩⟩)
    have hcc2 : abf name y = cc := by rw [← hcc, hkx]
    rw [hcc2] at hF1; clear hcc2 hkx; have hF1h := qq hF1; clear hF1 hcc hsr; obtain ⟨c0, c1, c2⟩ := aby hsrh.out hll hxh.out; go_wp2; go_region_held3 (fun w' => w'.cell? ⟨g, off + lo * 3, none⟩ = some (.string name) ∧ w'.cell? ⟨g, off + lo * 3 + 1, none⟩ = some (.int .u64 lim) ∧ w'.cell? ⟨g, off + lo * 3 + 2, none⟩ = some (.slice ma zw.length mc)) (first | exact ⟨c0, c1, c2⟩ | exact ⟨d0, d1, d2⟩) ((go_at_call 175; (with_reducible refine (hF1h.out _ (aad hB)).mono ?_); rintro e w1 ⟨rfl, hB2⟩; obtain ⟨d0, d1, d2⟩ := aby (hsrh.out.drew.pure hB2) hll hxh.out; have hB3 := (aad hB).trans (hB2.mono hB.size); have hZ3 := hZr.drew.pure hB2; clear c0 c1 c2)); exact aeq
   ·have hd1 : decide ((lo : Int) < (L.length : Int)) = false := qg (by omega)
    have hd2 : decide (lo < L.length) = false := qg hll; have hfd := qq (show acv abf QuT.name L y = false by rw [hend.out.2]; exact qg (fun h => hll h.1)); exact afk
theorem bdc (w : World) (v : Value) (L : List QuT) (b : Nat) (y : ByteArray) (hs : Slc aar 3 w v L) (P : Nat → Prop) (hE : ∀ q ∈ L, MsRd P w q.mv q.zw) (hr : RisK abf QuT.name L) (hL : L.length ≤ 1000000) (hb : Blk w b [.string y]) :
 Calls prog 137 #[v, .func (.func 138) #[] #[.pointer (some ⟨b, 0, none⟩)]] w fun e w' => e = .returned (.tuple #[.int .i64 (lbK abf QuT.name L y : Nat), .bool (acv abf QuT.name L y)]) ∧ Below w.heap.size w w' := by
 have hB1 := (qz w.heap.size w).alloc (qj _) (.cells #[.func (.func 138) #[] #[.pointer (some ⟨b, 0, none⟩)]] 164)
 have hf := Blk.new w [.func (.func 138) #[] #[.pointer (some ⟨b, 0, none⟩)]] 164
 have hbin := qq (bd5 _ v L b w.heap.size y (hs.pure hB1) P (fun x hx => (hE x hx).pure hB1) hr hL (hb.pure hB1) hf)
 obtain ⟨va, vn, vc, rfl⟩ := hs.shape3
 clear hr
 go_enter func137, ntmps137
 go_wp2_with (go_at_call 174; (with_reducible refine hbin.out.mono ?_); rintro e w1 ⟨rfl, hB2⟩; have hB := hB1.trans (hB2.mono hB1.size))
 go_ret2
 exact ⟨rfl, hB⟩
theorem alk {P : Prop} (h : P := by
 go_wp2_with (go_at_call 51; refine (ajo _ (xf, xg, xb) (yf, yg, yb)).mono ?_; rintro e w1 ⟨rfl, hB1⟩; have hB := hB.trans (hB1.mono hB.size))
 go_ret
 exact ⟨rfl, hB⟩) : P := h
theorem toB (w : World) (b : Nat) (xf : Int) (xg xb : ByteArray) (pa : Option Addr) (pn pc : Nat) (ta : Option Addr) (tn tc : Nat) (yf : Int) (yg yb : ByteArray) (hb : Blk w b [.int .u32 yf, .string yg, .string yb]) : Calls prog 120 #[.agg #[.int .u32 xf, .string xg, .string xb, .slice pa pn pc, .slice ta tn tc], .pointer (some ⟨b, 0, none⟩)] w fun e w' => e = .returned (.int .i64 (aav (xf, xg, xb) (yf, yg, yb))) ∧ Below w.heap.size w w' := by
 have hB := (qz w.heap.size w).alloc (qj _) (.cells #[.int .u32 xf, .string xg, .string xb, .slice pa pn pc, .slice ta tn tc] 62)
 have A := Blk.new w [.int .u32 xf, .string xg, .string xb, .slice pa pn pc, .slice ta tn tc] 62; have B := hb.alloc (.cells #[.int .u32 xf, .string xg, .string xb, .slice pa pn pc, .slice ta tn tc] 62)
 obtain ⟨c0, c1, c2⟩ := A.a3; obtain ⟨d0, d1, d2⟩ := B.a3
 go_enter func120, ntmps120
 exact alk
theorem fcB (w : World) (b fb : Nat) (xf : Int) (xg xb : ByteArray) (pa : Option Addr) (pn pc : Nat) (ta : Option Addr) (tn tc : Nat) (yf : Int) (yg yb : ByteArray) (hb : Blk w b [.int .u32 yf, .string yg, .string yb]) (hf : Blk w fb [.func (.func 120) #[] #[.pointer (some ⟨b, 0, none⟩)]]) : Calls prog 156 #[.agg #[.int .u32 xf, .string xg, .string xb, .slice pa pn pc, .slice ta tn tc], .agg #[], .pointer (some ⟨fb, 0, none⟩)] w fun e w' => e = .returned (.int .i64 (aav (xf, xg, xb) (yf, yg, yb))) ∧ Below w.heap.size w w' := by
 have hB := ((qz w.heap.size w).alloc (qj _) (.cells #[.int .u32 xf, .string xg, .string xb, .slice pa pn pc, .slice ta tn tc] 62)).alloc (by simp) (.cells #[] 183)
 have A := (Blk.new w [.int .u32 xf, .string xg, .string xb, .slice pa pn pc, .slice ta tn tc] 62).alloc (.cells #[] 183); have B := (hb.alloc (.cells #[.int .u32 xf, .string xg, .string xb, .slice pa pn pc, .slice ta tn tc] 62)).alloc (.cells #[] 183); have F := (hf.alloc (.cells #[.int .u32 xf, .string xg, .string xb, .slice pa pn pc, .slice ta tn tc] 62)).alloc (.cells #[] 183)
 obtain ⟨c0, c1, c2, c3, c4⟩ := A.a5; have f0 := F.at 0 rfl
 go_enter func156, ntmps156
 go_wp2_with (go_at_call 120; (with_reducible refine (toB _ b xf xg xb pa pn pc ta tn tc yf yg yb B).mono ?_); rintro e w1 ⟨rfl, hB1⟩; have hB := hB.trans (hB1.mono hB.size))
 go_ret
 exact ⟨rfl, hB⟩
theorem bd6 (w : World) (v : Value) (L : List BrT) (b fb : Nat) (yf : Int) (yg yb : ByteArray) (hs : Slc aa7 5 w v L) (P : Nat → Prop) (hE : ∀ b ∈ L, EnRd P w b.en) (hr : RisK aav BrT.x L) (hL : L.length ≤ 1000000) (hb : Blk w b [.int .u32 yf, .string yg, .string yb]) (hf : Blk w fb [.func (.func 120) #[] #[.pointer (some ⟨b, 0, none⟩)]]) :
 Calls prog 155 #[v, .agg #[], .func (.func 156) #[] #[.pointer (some ⟨fb, 0, none⟩)]] w fun e w' => e = .returned (.tuple #[.int .i64 (lbK aav BrT.x L (yf, yg, yb) : Nat), .bool (acv aav BrT.x L (yf, yg, yb))]) ∧ Below w.heap.size w w' := by
 obtain ⟨va, cap, rfl, hm⟩ := hs.len
 unfold maxLen at hm
 have hr := qq hr
 have hE := qq hE
 have hF := fun (u : World) (h : Below w.heap.size w u) (xf : Int) (xg xb : ByteArray) (pa : Option Addr) (pn pc : Nat) (ta : Option Addr) (tn tc : Nat) => fcB u b fb xf xg xb pa pn pc ta tn tc yf yg yb (hb.pure h) (hf.pure h)
 have hF := qq hF
 have hB1 := (qz w.heap.size w).alloc (qj _) (.cells #[] 183)
 obtain ⟨W0, hW0⟩ := zj (w.alloc (.cells #[] 183))
 have hZ : Blk W0 w.heap.size [] := by rw [hW0]; exact Blk.new w [] 183
 rw [← hW0] at hB1
 clear hb hf
 obtain ⟨y, hy⟩ : ∃ y : Xn, (yf, yg, yb) = y := ⟨_, rfl⟩
 rw [hy]
 have hyh := qq hy
 clear hy
 go_enter func155, ntmps155
 go_wp2
 rw [← hW0]
 clear hW0
 have hlm : (L.length : Int) ≤ 1000000 := by omega
 go_loopw [9, 10] (fun s9 s10 wr => ∃ lo hi : Nat, lo ≤ hi ∧ hi ≤ L.length ∧ s9 = .int .i64 lo ∧ s10 = .int .i64 hi ∧ Hid (∀ j, (h : j < L.length) → j < lo → aav (BrT.x L[j]) y < 0) ∧ Hid (∀ j, (h : j < L.length) → hi ≤ j → 0 ≤ aav (BrT.x L[j]) y) ∧ Below w.heap.size w wr ∧ Blk wr w.heap.size []) (fun s9 s10 _ => (intOf s10 - intOf s9).toNat)
 case atStart => exact ⟨0, L.length, by omega, by omega, rfl, rfl, qq (fun j h h' => jp h' (by omega)), qq (fun j h h' => jp h' (by omega)), hB1, hZ⟩
 case round =>
  obtain ⟨lo, hi, hlh, hhl, rfl, rfl, k1, k2, hB⟩ := hrel; obtain ⟨hB, hZr⟩ := hB; clear hZ hB1; have hsr0 := hs.pure hB; have hsrh := qq hsr0; clear hsr0; by_cases hlt : lo < hi
  ·have hmd : (lo + hi) / 2 < L.length := by omega
   have hmi : (0 : Int) ≤ ((lo + hi) / 2 : Nat) := by omega
   have hmi2 : (((lo + hi) / 2 : Nat) : Int) < (L.length : Int) := by omega
   have hmi3 : (0 : Int) ≤ ((lo : Int) + (hi : Int)) / 2 := by omega
   have hmi4 : ((lo : Int) + (hi : Int)) / 2 < (L.length : Int) := by omega
   have htn : (((lo : Int) + (hi : Int)) / 2).toNat = (lo + hi) / 2 := by omega
   have hsr := hsrh.out; obtain ⟨g, off, rfl⟩ := hsr.addrB hmd; have hE1 := fun x hx => (hE.out x hx).pure hB
   obtain ⟨xf, xg, xb, pa, pc, ta, tc, zu, zy, hx, -⟩ := adq hsr hmd (hE1 _ (qy hmd)); have hxh := qq hx; have hkx : BrT.x L[(lo + hi) / 2] = (xf, xg, xb) := by rw [hx]
   have hF1 := fun (u : World) (h : Below w.heap.size w u) => hF.out u h xf xg xb pa zu.length pc ta zy.length tc
   rw [hyh.out] at hF1; clear hx hE1; obtain ⟨cc, hcc⟩ := zz (aav (BrT.x L[(lo + hi) / 2]) y); have hcc2 : aav (xf, xg, xb) y = cc := by rw [← hcc, hkx]
   rw [hcc2] at hF1; clear hcc2 hkx; have hF1h := qq hF1; have hcch := qq hcc; clear hF1 hcc hsr; by_cases hq : cc < 0
   ·have hlow := qq (amg abu hr.out hmd (by rw [hcch.out]; exact hq))
    obtain ⟨c0, c1, c2, c3, c4⟩ := ach hsrh.out hmd hxh.out; go_wp2; go_region_held3 (fun w' => w'.cell? ⟨g, off + (lo + hi) / 2 * 5, none⟩ = some (.int .u32 xf) ∧ w'.cell? ⟨g, off + (lo + hi) / 2 * 5 + 1, none⟩ = some (.string xg) ∧ w'.cell? ⟨g, off + (lo + hi) / 2 * 5 + 2, none⟩ = some (.string xb) ∧ w'.cell? ⟨g, off + (lo + hi) / 2 * 5 + 3, none⟩ = some (.slice pa zu.length pc) ∧ w'.cell? ⟨g, off + (lo + hi) / 2 * 5 + 4, none⟩ = some (.slice ta zy.length tc)) (first | exact ⟨c0, c1, c2, c3, c4⟩ | exact ⟨d0, d1, d2, d3, d4⟩) ((go_at_call 156; (with_reducible refine (hF1h.out _ (aad hB)).mono ?_); rintro e w1 ⟨rfl, hB2⟩; obtain ⟨d0, d1, d2, d3, d4⟩ := ach (hsrh.out.drew.pure hB2) hmd hxh.out; have hB3 := (aad hB).trans (hB2.mono hB.size); have hZ3 := hZr.drew.pure hB2; clear c0 c1 c2 c3 c4)); exact afi
   ·have hhigh := qq (aij abu hr.out hmd (by rw [hcch.out]; exact hq))
    obtain ⟨c0, c1, c2, c3, c4⟩ := ach hsrh.out hmd hxh.out; go_wp2; go_region_held3 (fun w' => w'.cell? ⟨g, off + (lo + hi) / 2 * 5, none⟩ = some (.int .u32 xf) ∧ w'.cell? ⟨g, off + (lo + hi) / 2 * 5 + 1, none⟩ = some (.string xg) ∧ w'.cell? ⟨g, off + (lo + hi) / 2 * 5 + 2, none⟩ = some (.string xb) ∧ w'.cell? ⟨g, off + (lo + hi) / 2 * 5 + 3, none⟩ = some (.slice pa zu.length pc) ∧ w'.cell? ⟨g, off + (lo + hi) / 2 * 5 + 4, none⟩ = some (.slice ta zy.length tc)) (first | exact ⟨c0, c1, c2, c3, c4⟩ | exact ⟨d0, d1, d2, d3, d4⟩) ((go_at_call 156; (with_reducible refine (hF1h.out _ (aad hB)).mono ?_); rintro e w1 ⟨rfl, hB2⟩; obtain ⟨d0, d1, d2, d3, d4⟩ := ach (hsrh.out.drew.pure hB2) hmd hxh.out; have hB3 := (aad hB).trans (hB2.mono hB.size); have hZ3 := hZr.drew.pure hB2; clear c0 c1 c2 c3 c4)); exact afj
  ·obtain rfl : lo = hi := by omega
   have hend := qq (amh abu hr.out hhl k1.out k2.out); clear k1 k2 hlh; by_cases hll : lo < L.length
   ·have hmi : (0 : Int) ≤ (lo : Int) := by omega
    have hmi2 : (lo : Int) < (L.length : Int) := by omega
    have hsr := hsrh.out; obtain ⟨g, off, rfl⟩ := hsr.addrB hll; have hE1 := fun x hx => (hE.out x hx).pure hB
    obtain ⟨xf, xg, xb, pa, pc, ta, tc, zu, zy, hx, -⟩ := adq hsr hll (hE1 _ (qy hll)); have hxh := qq hx; have hkx : BrT.x L[lo] = (xf, xg, xb) := by rw [hx]
    have hF1 := fun (u : World) (h : Below w.heap.size w u) => hF.out u h xf xg xb pa zu.length pc ta zy.length tc
    rw [hyh.out] at hF1; clear hx hE1; obtain ⟨cc, hcc⟩ := zz (aav (BrT.x L[lo]) y)
    have hfd := qq (show acv aav BrT.x L y = (cc == 0) by
     rw [hend.out.2, ← hcc, Bool.eq_iff_iff, qm, beq_iff_eq]
     exact ⟨fun h => h.2, fun h => ⟨hll, h⟩⟩)
    have hcc2 : aav (xf, xg, xb) y = cc := by rw [← hcc, hkx]
    rw [hcc2] at hF1; clear hcc2 hkx; have hF1h := qq hF1; clear hF1 hcc hsr; obtain ⟨c0, c1, c2, c3, c4⟩ := ach hsrh.out hll hxh.out; go_wp2; go_region_held3 (fun w' => w'.cell? ⟨g, off + lo * 5, none⟩ = some (.int .u32 xf) ∧ w'.cell? ⟨g, off + lo * 5 + 1, none⟩ = some (.string xg) ∧ w'.cell? ⟨g, off + lo * 5 + 2, none⟩ = some (.string xb) ∧ w'.cell? ⟨g, off + lo * 5 + 3, none⟩ = some (.slice pa zu.length pc) ∧ w'.cell? ⟨g, off + lo * 5 + 4, none⟩ = some (.slice ta zy.length tc)) (first | exact ⟨c0, c1, c2, c3, c4⟩ | exact ⟨d0, d1, d2, d3, d4⟩) ((go_at_call 156; (with_reducible refine (hF1h.out _ (aad hB)).mono ?_); rintro e w1 ⟨rfl, hB2⟩; obtain ⟨d0, d1, d2, d3, d4⟩ := ach (hsrh.out.drew.pure hB2) hll hxh.out; have hB3 := (aad hB).trans (hB2.mono hB.size); have hZ3 := hZr.drew.pure hB2; clear c0 c1 c2 c3 c4)); exact aeq
   ·have hd1 : decide ((lo : Int) < (L.length : Int)) = false := qg (by omega)
    have hd2 : decide (lo < L.length) = false := qg hll; have hfd := qq (show acv aav BrT.x L y = false by rw [hend.out.2]; exact qg (fun h => hll h.1)); exact afk
theorem bdd (w : World) (v : Value) (L : List BrT) (b : Nat) (yf : Int) (yg yb : ByteArray) (hs : Slc aa7 5 w v L) (P : Nat → Prop) (hE : ∀ b ∈ L, EnRd P w b.en) (hr : RisK aav BrT.x L) (hL : L.length ≤ 1000000) (hb : Blk w b [.int .u32 yf, .string yg, .string yb]) :
 Calls prog 119 #[v, .func (.func 120) #[] #[.pointer (some ⟨b, 0, none⟩)]] w fun e w' => e = .returned (.tuple #[.int .i64 (lbK aav BrT.x L (yf, yg, yb) : Nat), .bool (acv aav BrT.x L (yf, yg, yb))]) ∧ Below w.heap.size w w' := by
 have hB1 := (qz w.heap.size w).alloc (qj _) (.cells #[.func (.func 120) #[] #[.pointer (some ⟨b, 0, none⟩)]] 151)
 have hf := Blk.new w [.func (.func 120) #[] #[.pointer (some ⟨b, 0, none⟩)]] 151
 have hbin := qq (bd6 _ v L b w.heap.size yf yg yb (hs.pure hB1) P (fun x hx => (hE x hx).pure hB1) hr hL (hb.pure hB1) hf)
 obtain ⟨va, vn, vc, rfl⟩ := hs.shape3
 clear hr
 go_enter func119, ntmps119
 go_wp2_with (go_at_call 155; (with_reducible refine hbin.out.mono ?_); rintro e w1 ⟨rfl, hB2⟩; have hB := hB1.trans (hB2.mono hB1.size))
 go_ret2
 exact ⟨rfl, hB⟩
theorem toH (w : World) (b : Nat) (xf : Int) (xg xb : ByteArray) (hc : Bool) (yf : Int) (yg yb : ByteArray) (hb : Blk w b [.int .u32 yf, .string yg, .string yb]) : Calls prog 145 #[.agg #[.int .u32 xf, .string xg, .string xb, .bool hc], .pointer (some ⟨b, 0, none⟩)] w fun e w' => e = .returned (.int .i64 (aav (xf, xg, xb) (yf, yg, yb))) ∧ Below w.heap.size w w' := by
 have hB := (qz w.heap.size w).alloc (qj _) (.cells #[.int .u32 xf, .string xg, .string xb, .bool hc] 90)
 have A := Blk.new w [.int .u32 xf, .string xg, .string xb, .bool hc] 90; have B := hb.alloc (.cells #[.int .u32 xf, .string xg, .string xb, .bool hc] 90)
 obtain ⟨c0, c1, c2⟩ := A.a3; obtain ⟨d0, d1, d2⟩ := B.a3
 go_enter func145, ntmps145
 exact alk
theorem fcH (w : World) (b fb : Nat) (xf : Int) (xg xb : ByteArray) (hc : Bool) (yf : Int) (yg yb : ByteArray) (hb : Blk w b [.int .u32 yf, .string yg, .string yb]) (hf : Blk w fb [.func (.func 145) #[] #[.pointer (some ⟨b, 0, none⟩)]]) : Calls prog 178 #[.agg #[.int .u32 xf, .string xg, .string xb, .bool hc], .agg #[], .pointer (some ⟨fb, 0, none⟩)] w fun e w' => e = .returned (.int .i64 (aav (xf, xg, xb) (yf, yg, yb))) ∧ Below w.heap.size w w' := by
 have hB := ((qz w.heap.size w).alloc (qj _) (.cells #[.int .u32 xf, .string xg, .string xb, .bool hc] 90)).alloc (by simp) (.cells #[] 183)
 have A := (Blk.new w [.int .u32 xf, .string xg, .string xb, .bool hc] 90).alloc (.cells #[] 183); have B := (hb.alloc (.cells #[.int .u32 xf, .string xg, .string xb, .bool hc] 90)).alloc (.cells #[] 183); have F := (hf.alloc (.cells #[.int .u32 xf, .string xg, .string xb, .bool hc] 90)).alloc (.cells #[] 183)
 obtain ⟨c0, c1, c2, c3⟩ := A.a4; have f0 := F.at 0 rfl
 go_enter func178, ntmps178
 go_wp2_with (go_at_call 145; (with_reducible refine (toH _ b xf xg xb hc yf yg yb B).mono ?_); rintro e w1 ⟨rfl, hB1⟩; have hB := hB.trans (hB1.mono hB.size))
 go_ret
 exact ⟨rfl, hB⟩
theorem bd7 (w : World) (v : Value) (L : List He) (b fb : Nat) (yf : Int) (yg yb : ByteArray) (hs : Slc adp 4 w v L) (hr : RisK aav He.x L) (hL : L.length ≤ 1000000) (hb : Blk w b [.int .u32 yf, .string yg, .string yb]) (hf : Blk w fb [.func (.func 145) #[] #[.pointer (some ⟨b, 0, none⟩)]]) :
 Calls prog 177 #[v, .agg #[], .func (.func 178) #[] #[.pointer (some ⟨fb, 0, none⟩)]] w fun e w' => e = .returned (.tuple #[.int .i64 (lbK aav He.x L (yf, yg, yb) : Nat), .bool (acv aav He.x L (yf, yg, yb))]) ∧ Below w.heap.size w w' := by
 obtain ⟨va, cap, rfl, hm⟩ := hs.len
 unfold maxLen at hm
 have hr := qq hr
 have hF := fun (u : World) (h : Below w.heap.size w u) (xf : Int) (xg xb : ByteArray) (hc : Bool) => fcH u b fb xf xg xb hc yf yg yb (hb.pure h) (hf.pure h)
 have hF := qq hF
 have hB1 := (qz w.heap.size w).alloc (qj _) (.cells #[] 183)
 obtain ⟨W0, hW0⟩ := zj (w.alloc (.cells #[] 183))
 have hZ : Blk W0 w.heap.size [] := by rw [hW0]; exact Blk.new w [] 183
 rw [← hW0] at hB1
 clear hb hf
 obtain ⟨y, hy⟩ : ∃ y : Xn, (yf, yg, yb) = y := ⟨_, rfl⟩
 rw [hy]
 have hyh := qq hy
 clear hy
 go_enter func177, ntmps177
 go_wp2
 rw [← hW0]
 clear hW0
 have hlm : (L.length : Int) ≤ 1000000 := by omega
 go_loopw [9, 10] (fun s9 s10 wr => ∃ lo hi : Nat, lo ≤ hi ∧ hi ≤ L.length ∧ s9 = .int .i64 lo ∧ s10 = .int .i64 hi ∧ Hid (∀ j, (h : j < L.length) → j < lo → aav (He.x L[j]) y < 0) ∧ Hid (∀ j, (h : j < L.length) → hi ≤ j → 0 ≤ aav (He.x L[j]) y) ∧ Below w.heap.size w wr ∧ Blk wr w.heap.size []) (fun s9 s10 _ => (intOf s10 - intOf s9).toNat)
 case atStart => exact ⟨0, L.length, by omega, by omega, rfl, rfl, qq (fun j h h' => jp h' (by omega)), qq (fun j h h' => jp h' (by omega)), hB1, hZ⟩
 case round =>
  obtain ⟨lo, hi, hlh, hhl, rfl, rfl, k1, k2, hB⟩ := hrel; obtain ⟨hB, hZr⟩ := hB; clear hZ hB1; have hsr0 := hs.pure hB; have hsrh := qq hsr0; clear hsr0; by_cases hlt : lo < hi
  ·have hmd : (lo + hi) / 2 < L.length := by omega
   have hmi : (0 : Int) ≤ ((lo + hi) / 2 : Nat) := by omega
   have hmi2 : (((lo + hi) / 2 : Nat) : Int) < (L.length : Int) := by omega
   have hmi3 : (0 : Int) ≤ ((lo : Int) + (hi : Int)) / 2 := by omega
   have hmi4 : ((lo : Int) + (hi : Int)) / 2 < (L.length : Int) := by omega
   have htn : (((lo : Int) + (hi : Int)) / 2).toNat = (lo + hi) / 2 := by omega
   have hsr := hsrh.out; obtain ⟨g, off, rfl⟩ := hsr.addrB hmd; obtain ⟨xf, xg, xb, hc, hx, -⟩ := agb hsr hmd; have hxh := qq hx; have hkx : He.x L[(lo + hi) / 2] = (xf, xg, xb) := by rw [hx]
   have hF1 := fun (u : World) (h : Below w.heap.size w u) => hF.out u h xf xg xb hc
   rw [hyh.out] at hF1; clear hx; obtain ⟨cc, hcc⟩ := zz (aav (He.x L[(lo + hi) / 2]) y); have hcc2 : aav (xf, xg, xb) y = cc := by rw [← hcc, hkx]
   rw [hcc2] at hF1; clear hcc2 hkx; have hF1h := qq hF1; have hcch := qq hcc; clear hF1 hcc hsr; by_cases hq : cc < 0
   ·have hlow := qq (amg abu hr.out hmd (by rw [hcch.out]; exact hq))
    obtain ⟨c0, c1, c2, c3⟩ := aco hsrh.out hmd hxh.out; go_wp2; go_region_held3 (fun w' => w'.cell? ⟨g, off + (lo + hi) / 2 * 4, none⟩ = some (.int .u32 xf) ∧ w'.cell? ⟨g, off + (lo + hi) / 2 * 4 + 1, none⟩ = some (.string xg) ∧ w'.cell? ⟨g, off + (lo + hi) / 2 * 4 + 2, none⟩ = some (.string xb) ∧ w'.cell? ⟨g, off + (lo + hi) / 2 * 4 + 3, none⟩ = some (.bool hc)) (first | exact ⟨c0, c1, c2, c3⟩ | exact ⟨d0, d1, d2, d3⟩) ((go_at_call 178; (with_reducible refine (hF1h.out _ (aad hB)).mono ?_); rintro e w1 ⟨rfl, hB2⟩; obtain ⟨d0, d1, d2, d3⟩ := aco (hsrh.out.drew.pure hB2) hmd hxh.out; have hB3 := (aad hB).trans (hB2.mono hB.size); have hZ3 := hZr.drew.pure hB2; clear c0 c1 c2 c3)); exact afi
   ·have hhigh := qq (aij abu hr.out hmd (by rw [hcch.out]; exact hq))
    obtain ⟨c0, c1, c2, c3⟩ := aco hsrh.out hmd hxh.out; go_wp2; go_region_held3 (fun w' => w'.cell? ⟨g, off + (lo + hi) / 2 * 4, none⟩ = some (.int .u32 xf) ∧ w'.cell? ⟨g, off + (lo + hi) / 2 * 4 + 1, none⟩ = some (.string xg) ∧ w'.cell? ⟨g, off + (lo + hi) / 2 * 4 + 2, none⟩ = some (.string xb) ∧ w'.cell? ⟨g, off + (lo + hi) / 2 * 4 + 3, none⟩ = some (.bool hc)) (first | exact ⟨c0, c1, c2, c3⟩ | exact ⟨d0, d1, d2, d3⟩) ((go_at_call 178; (with_reducible refine (hF1h.out _ (aad hB)).mono ?_); rintro e w1 ⟨rfl, hB2⟩; obtain ⟨d0, d1, d2, d3⟩ := aco (hsrh.out.drew.pure hB2) hmd hxh.out; have hB3 := (aad hB).trans (hB2.mono hB.size); have hZ3 := hZr.drew.pure hB2; clear c0 c1 c2 c3)); exact afj
  ·obtain rfl : lo = hi := by omega
   have hend := qq (amh abu hr.out hhl k1.out k2.out); clear k1 k2 hlh; by_cases hll : lo < L.length
   ·have hmi : (0 : Int) ≤ (lo : Int) := by omega
    have hmi2 : (lo : Int) < (L.length : Int) := by omega
    have hsr := hsrh.out; obtain ⟨g, off, rfl⟩ := hsr.addrB hll; obtain ⟨xf, xg, xb, hc, hx, -⟩ := agb hsr hll; have hxh := qq hx; have hkx : He.x L[lo] = (xf, xg, xb) := by rw [hx]
    have hF1 := fun (u : World) (h : Below w.heap.size w u) => hF.out u h xf xg xb hc
    rw [hyh.out] at hF1; clear hx; obtain ⟨cc, hcc⟩ := zz (aav (He.x L[lo]) y)
    have hfd := qq (show acv aav He.x L y = (cc == 0) by
     rw [hend.out.2, ← hcc, Bool.eq_iff_iff, qm, beq_iff_eq]
     exact ⟨fun h => h.2, fun h => ⟨hll, h⟩⟩)
    have hcc2 : aav (xf, xg, xb) y = cc := by rw [← hcc, hkx]
    rw [hcc2] at hF1; clear hcc2 hkx; have hF1h := qq hF1; clear hF1 hcc hsr; obtain ⟨c0, c1, c2, c3⟩ := aco hsrh.out hll hxh.out; go_wp2; go_region_held3 (fun w' => w'.cell? ⟨g, off + lo * 4, none⟩ = some (.int .u32 xf) ∧ w'.cell? ⟨g, off + lo * 4 + 1, none⟩ = some (.string xg) ∧ w'.cell? ⟨g, off + lo * 4 + 2, none⟩ = some (.string xb) ∧ w'.cell? ⟨g, off + lo * 4 + 3, none⟩ = some (.bool hc)) (first | exact ⟨c0, c1, c2, c3⟩ | exact ⟨d0, d1, d2, d3⟩) ((go_at_call 178; (with_reducible refine (hF1h.out _ (aad hB)).mono ?_); rintro e w1 ⟨rfl, hB2⟩; obtain ⟨d0, d1, d2, d3⟩ := aco (hsrh.out.drew.pure hB2) hll hxh.out; have hB3 := (aad hB).trans (hB2.mono hB.size); have hZ3 := hZr.drew.pure hB2; clear c0 c1 c2 c3)); exact aeq
   ·have hd1 : decide ((lo : Int) < (L.length : Int)) = false := qg (by omega)
    have hd2 : decide (lo < L.length) = false := qg hll; have hfd := qq (show acv aav He.x L y = false by rw [hend.out.2]; exact qg (fun h => hll h.1)); exact afk
theorem bde (w : World) (v : Value) (L : List He) (b : Nat) (yf : Int) (yg yb : ByteArray) (hs : Slc adp 4 w v L) (hr : RisK aav He.x L) (hL : L.length ≤ 1000000) (hb : Blk w b [.int .u32 yf, .string yg, .string yb]) :
 Calls prog 144 #[v, .func (.func 145) #[] #[.pointer (some ⟨b, 0, none⟩)]] w fun e w' => e = .returned (.tuple #[.int .i64 (lbK aav He.x L (yf, yg, yb) : Nat), .bool (acv aav He.x L (yf, yg, yb))]) ∧ Below w.heap.size w w' := by
 have hB1 := (qz w.heap.size w).alloc (qj _) (.cells #[.func (.func 145) #[] #[.pointer (some ⟨b, 0, none⟩)]] 171)
 have hf := Blk.new w [.func (.func 145) #[] #[.pointer (some ⟨b, 0, none⟩)]] 171
 have hbin := qq (bd7 _ v L b w.heap.size yf yg yb (hs.pure hB1) hr hL (hb.pure hB1) hf)
 obtain ⟨va, vn, vc, rfl⟩ := hs.shape3
 clear hr
 go_enter func144, ntmps144
 go_wp2_with (go_at_call 177; (with_reducible refine hbin.out.mono ?_); rintro e w1 ⟨rfl, hB2⟩; have hB := hB1.trans (hB2.mono hB1.size))
 go_ret2
 exact ⟨rfl, hB⟩
theorem ahl {P : Prop} (h : P := by
 go_enter func150, ntmps150
 go_wp2
 go_ret
 exact ⟨rfl, hB⟩) : P := h
theorem toM (w : World) (b : Nat) (id : Int) (key : ByteArray) (dur red : Bool) (mid : ByteArray) (uk un : Int) (us : ByteArray) (uka : Option Addr) (uksn ukc : Nat) (ula : Option Addr) (uln ulc : Nat) (body : ByteArray) (yq : ByteArray) (y : Int) (hb : Blk w b [.string yq, .int .u64 y]) : Calls prog 150 #[.agg #[.int .u64 id, .string key, .bool dur, .bool red, .string mid, .int .u8 uk, .int .u64 un, .string us, .slice uka uksn ukc, .slice ula uln ulc, .string body], .pointer (some ⟨b, 0, none⟩)] w fun e w' => e = .returned (.int .i64 (ad8 id y)) ∧ Below w.heap.size w w' := by
 have hB := (qz w.heap.size w).alloc (qj _) (.cells #[.int .u64 id, .string key, .bool dur, .bool red, .string mid, .int .u8 uk, .int .u64 un, .string us, .slice uka uksn ukc, .slice ula uln ulc, .string body] 60)
 have A := Blk.new w [.int .u64 id, .string key, .bool dur, .bool red, .string mid, .int .u8 uk, .int .u64 un, .string us, .slice uka uksn ukc, .slice ula uln ulc, .string body] 60; have B := hb.alloc (.cells #[.int .u64 id, .string key, .bool dur, .bool red, .string mid, .int .u8 uk, .int .u64 un, .string us, .slice uka uksn ukc, .slice ula uln ulc, .string body] 60)
 obtain ⟨c0, c1, c2⟩ := A.a3; obtain ⟨d0, d1⟩ := B.a2
 unfold ad8
 by_cases h1 : id < y
 ·rw [qw h1]
  exact ahl
 ·rw [qk h1]
  by_cases h2 : y < id
  ·rw [qw h2]
   exact ahl
  ·rw [qk h2]
   exact ahl
theorem fcM (w : World) (b fb : Nat) (id : Int) (key : ByteArray) (dur red : Bool) (mid : ByteArray) (uk un : Int) (us : ByteArray) (uka : Option Addr) (uksn ukc : Nat) (ula : Option Addr) (uln ulc : Nat) (body : ByteArray) (yq : ByteArray) (y : Int) (hb : Blk w b [.string yq, .int .u64 y]) (hf : Blk w fb [.func (.func 150) #[] #[.pointer (some ⟨b, 0, none⟩)]]) : Calls prog 181 #[.agg #[.int .u64 id, .string key, .bool dur, .bool red, .string mid, .int .u8 uk, .int .u64 un, .string us, .slice uka uksn ukc, .slice ula uln ulc, .string body], .agg #[], .pointer (some ⟨fb, 0, none⟩)] w fun e w' => e = .returned (.int .i64 (ad8 id y)) ∧ Below w.heap.size w w' := by
 have hB := ((qz w.heap.size w).alloc (qj _) (.cells #[.int .u64 id, .string key, .bool dur, .bool red, .string mid, .int .u8 uk, .int .u64 un, .string us, .slice uka uksn ukc, .slice ula uln ulc, .string body] 60)).alloc (by simp) (.cells #[] 183)
 have A := (Blk.new w [.int .u64 id, .string key, .bool dur, .bool red, .string mid, .int .u8 uk, .int .u64 un, .string us, .slice uka uksn ukc, .slice ula uln ulc, .string body] 60).alloc (.cells #[] 183); have B := (hb.alloc (.cells #[.int .u64 id, .string key, .bool dur, .bool red, .string mid, .int .u8 uk, .int .u64 un, .string us, .slice uka uksn ukc, .slice ula uln ulc, .string body] 60)).alloc (.cells #[] 183); have F := (hf.alloc (.cells #[.int .u64 id, .string key, .bool dur, .bool red, .string mid, .int .u8 uk, .int .u64 un, .string us, .slice uka uksn ukc, .slice ula uln ulc, .string body] 60)).alloc (.cells #[] 183)
 obtain ⟨c0, c1, c2, c3, c4, c5, c6, c7, c8, c9, c10⟩ := A.a11; have f0 := F.at 0 rfl
 go_enter func181, ntmps181
 go_wp2_with (go_at_call 150; (with_reducible refine (toM _ b id key dur red mid uk un us uka uksn ukc ula uln ulc body yq y B).mono ?_); rintro e w1 ⟨rfl, hB1⟩; have hB := hB.trans (hB1.mono hB.size))
 go_ret
 exact ⟨rfl, hB⟩
theorem bd8 (w : World) (v : Value) (L : List MsT) (b fb : Nat) (yq : ByteArray) (y : Int) (hs : Slc abl 11 w v L) (P : Nat → Prop) (hE : ∀ m ∈ L, Rd P w m.pr.app) (hr : RisK ad8 MsT.id L) (hL : L.length ≤ 1000000) (hb : Blk w b [.string yq, .int .u64 y]) (hf : Blk w fb [.func (.func 150) #[] #[.pointer (some ⟨b, 0, none⟩)]]) :
 Calls prog 180 #[v, .agg #[], .func (.func 181) #[] #[.pointer (some ⟨fb, 0, none⟩)]] w fun e w' => e = .returned (.tuple #[.int .i64 (lbK ad8 MsT.id L y : Nat), .bool (acv ad8 MsT.id L y)]) ∧ Below w.heap.size w w' := by
 obtain ⟨va, cap, rfl, hm⟩ := hs.len
 unfold maxLen at hm
 have hr := qq hr
 have hE := qq hE
 have hF := fun (u : World) (h : Below w.heap.size w u) (id : Int) (key : ByteArray) (dur red : Bool) (mid : ByteArray) (uk un : Int) (us : ByteArray) (uka : Option Addr) (uksn ukc : Nat) (ula : Option Addr) (uln ulc : Nat) (body : ByteArray) => fcM u b fb id key dur red mid uk un us uka uksn ukc ula uln ulc body yq y (hb.pure h) (hf.pure h)
 have hF := qq hF
 have hB1 := (qz w.heap.size w).alloc (qj _) (.cells #[] 183)
 obtain ⟨W0, hW0⟩ := zj (w.alloc (.cells #[] 183))
 have hZ : Blk W0 w.heap.size [] := by rw [hW0]; exact Blk.new w [] 183
 rw [← hW0] at hB1
 clear hb hf
 go_enter func180, ntmps180
 go_wp2
 rw [← hW0]
 clear hW0
 have hlm : (L.length : Int) ≤ 1000000 := by omega
 go_loopw [9, 10] (fun s9 s10 wr => ∃ lo hi : Nat, lo ≤ hi ∧ hi ≤ L.length ∧ s9 = .int .i64 lo ∧ s10 = .int .i64 hi ∧ Hid (∀ j, (h : j < L.length) → j < lo → ad8 (MsT.id L[j]) y < 0) ∧ Hid (∀ j, (h : j < L.length) → hi ≤ j → 0 ≤ ad8 (MsT.id L[j]) y) ∧ Below w.heap.size w wr ∧ Blk wr w.heap.size []) (fun s9 s10 _ => (intOf s10 - intOf s9).toNat)
 case atStart => exact ⟨0, L.length, by omega, by omega, rfl, rfl, qq (fun j h h' => jp h' (by omega)), qq (fun j h h' => jp h' (by omega)), hB1, hZ⟩
 case round =>
  obtain ⟨lo, hi, hlh, hhl, rfl, rfl, k1, k2, hB⟩ := hrel; obtain ⟨hB, hZr⟩ := hB; clear hZ hB1; have hsr0 := hs.pure hB; have hsrh := qq hsr0; clear hsr0; by_cases hlt : lo < hi
  ·have hmd : (lo + hi) / 2 < L.length := by omega
   have hmi : (0 : Int) ≤ ((lo + hi) / 2 : Nat) := by omega
   have hmi2 : (((lo + hi) / 2 : Nat) : Int) < (L.length : Int) := by omega
   have hmi3 : (0 : Int) ≤ ((lo : Int) + (hi : Int)) / 2 := by omega
   have hmi4 : ((lo : Int) + (hi : Int)) / 2 < (L.length : Int) := by omega
   have htn : (((lo : Int) + (hi : Int)) / 2).toNat = (lo + hi) / 2 := by omega
   have hsr := hsrh.out; obtain ⟨g, off, rfl⟩ := hsr.addrB hmd; have hE1 := fun x hx => (hE.out x hx).pure hB
   obtain ⟨id, key, dur, red, mid, uk, un, us, uka, ukc, ula, ulc, uks, ul, body, hx, -⟩ := aga hsr hmd (hE1 _ (qy hmd)); have hxh := qq hx; have hkx : MsT.id L[(lo + hi) / 2] = id := by rw [hx]
   have hF1 := fun (u : World) (h : Below w.heap.size w u) => hF.out u h id key dur red mid uk un us uka uks.length ukc ula ul.length ulc body
   clear hx hE1; obtain ⟨cc, hcc⟩ := zz (ad8 (MsT.id L[(lo + hi) / 2]) y); have hcc2 : ad8 id y = cc := by rw [← hcc, hkx]
   rw [hcc2] at hF1; clear hcc2 hkx; have hF1h := qq hF1; have hcch := qq hcc; clear hF1 hcc hsr; by_cases hq : cc < 0
   ·have hlow := qq (amg adn hr.out hmd (by rw [hcch.out]; exact hq))
    obtain ⟨c0, c1, c2, c3, c4, c5, c6, c7, c8, c9, c10⟩ := afh hsrh.out hmd hxh.out; go_wp2; go_region_held3 (fun w' => w'.cell? ⟨g, off + (lo + hi) / 2 * 11, none⟩ = some (.int .u64 id) ∧ w'.cell? ⟨g, off + (lo + hi) / 2 * 11 + 1, none⟩ = some (.string key) ∧ w'.cell? ⟨g, off + (lo + hi) / 2 * 11 + 2, none⟩ = some (.bool dur) ∧ w'.cell? ⟨g, off + (lo + hi) / 2 * 11 + 3, none⟩ = some (.bool red) ∧ w'.cell? ⟨g, off + (lo + hi) / 2 * 11 + 4, none⟩ = some (.string mid) ∧ w'.cell? ⟨g, off + (lo + hi) / 2 * 11 + 5, none⟩ = some (.int .u8 uk) ∧ w'.cell? ⟨g, off + (lo + hi) / 2 * 11 + 6, none⟩ = some (.int .u64 un) ∧ w'.cell? ⟨g, off + (lo + hi) / 2 * 11 + 7, none⟩ = some (.string us) ∧ w'.cell? ⟨g, off + (lo + hi) / 2 * 11 + 8, none⟩ = some (.slice uka uks.length ukc) ∧ w'.cell? ⟨g, off + (lo + hi) / 2 * 11 + 9, none⟩ = some (.slice ula ul.length ulc) ∧ w'.cell? ⟨g, off + (lo + hi) / 2 * 11 + 10, none⟩ = some (.string body)) (first | exact ⟨c0, c1, c2, c3, c4, c5, c6, c7, c8, c9, c10⟩ | exact ⟨d0, d1, d2, d3, d4, d5, d6, d7, d8, d9, d10⟩) ((go_at_call 181; (with_reducible refine (hF1h.out _ (aad hB)).mono ?_); rintro e w1 ⟨rfl, hB2⟩; obtain ⟨d0, d1, d2, d3, d4, d5, d6, d7, d8, d9, d10⟩ := afh (hsrh.out.drew.pure hB2) hmd hxh.out; have hB3 := (aad hB).trans (hB2.mono hB.size); have hZ3 := hZr.drew.pure hB2; clear c0 c1 c2 c3 c4 c5 c6 c7 c8 c9 c10)); exact afi
   ·have hhigh := qq (aij adn hr.out hmd (by rw [hcch.out]; exact hq))
    obtain ⟨c0, c1, c2, c3, c4, c5, c6, c7, c8, c9, c10⟩ := afh hsrh.out hmd hxh.out; go_wp2; go_region_held3 (fun w' => w'.cell? ⟨g, off + (lo + hi) / 2 * 11, none⟩ = some (.int .u64 id) ∧ w'.cell? ⟨g, off + (lo + hi) / 2 * 11 + 1, none⟩ = some (.string key) ∧ w'.cell? ⟨g, off + (lo + hi) / 2 * 11 + 2, none⟩ = some (.bool dur) ∧ w'.cell? ⟨g, off + (lo + hi) / 2 * 11 + 3, none⟩ = some (.bool red) ∧ w'.cell? ⟨g, off + (lo + hi) / 2 * 11 + 4, none⟩ = some (.string mid) ∧ w'.cell? ⟨g, off + (lo + hi) / 2 * 11 + 5, none⟩ = some (.int .u8 uk) ∧ w'.cell? ⟨g, off + (lo + hi) / 2 * 11 + 6, none⟩ = some (.int .u64 un) ∧ w'.cell? ⟨g, off + (lo + hi) / 2 * 11 + 7, none⟩ = some (.string us) ∧ w'.cell? ⟨g, off + (lo + hi) / 2 * 11 + 8, none⟩ = some (.slice uka uks.length ukc) ∧ w'.cell? ⟨g, off + (lo + hi) / 2 * 11 + 9, none⟩ = some (.slice ula ul.length ulc) ∧ w'.cell? ⟨g, off + (lo + hi) / 2 * 11 + 10, none⟩ = some (.string body)) (first | exact ⟨c0, c1, c2, c3, c4, c5, c6, c7, c8, c9, c10⟩ | exact ⟨d0, d1, d2, d3, d4, d5, d6, d7, d8, d9, d10⟩) ((go_at_call 181; (with_reducible refine (hF1h.out _ (aad hB)).mono ?_); rintro e w1 ⟨rfl, hB2⟩; obtain ⟨d0, d1, d2, d3, d4, d5, d6, d7, d8, d9, d10⟩ := afh (hsrh.out.drew.pure hB2) hmd hxh.out; have hB3 := (aad hB).trans (hB2.mono hB.size); have hZ3 := hZr.drew.pure hB2; clear c0 c1 c2 c3 c4 c5 c6 c7 c8 c9 c10)); exact afj
  ·obtain rfl : lo = hi := by omega
   have hend := qq (amh adn hr.out hhl k1.out k2.out); clear k1 k2 hlh; by_cases hll : lo < L.length
   ·have hmi : (0 : Int) ≤ (lo : Int) := by omega
    have hmi2 : (lo : Int) < (L.length : Int) := by omega
    have hsr := hsrh.out; obtain ⟨g, off, rfl⟩ := hsr.addrB hll; have hE1 := fun x hx => (hE.out x hx).pure hB
    obtain ⟨id, key, dur, red, mid, uk, un, us, uka, ukc, ula, ulc, uks, ul, body, hx, -⟩ := aga hsr hll (hE1 _ (qy hll)); have hxh := qq hx; have hkx : MsT.id L[lo] = id := by rw [hx]
    have hF1 := fun (u : World) (h : Below w.heap.size w u) => hF.out u h id key dur red mid uk un us uka uks.length ukc ula ul.length ulc body
    clear hx hE1; obtain ⟨cc, hcc⟩ := zz (ad8 (MsT.id L[lo]) y)
    have hfd := qq (show acv ad8 MsT.id L y = (cc == 0) by
     rw [hend.out.2, ← hcc, Bool.eq_iff_iff, qm, beq_iff_eq]
     exact ⟨fun h => h.2, fun h => ⟨hll, h⟩⟩)
    have hcc2 : ad8 id y = cc := by rw [← hcc, hkx]
    rw [hcc2] at hF1; clear hcc2 hkx; have hF1h := qq hF1; clear hF1 hcc hsr; obtain ⟨c0, c1, c2, c3, c4, c5, c6, c7, c8, c9, c10⟩ := afh hsrh.out hll hxh.out; go_wp2; go_region_held3 (fun w' => w'.cell? ⟨g, off + lo * 11, none⟩ = some (.int .u64 id) ∧ w'.cell? ⟨g, off + lo * 11 + 1, none⟩ = some (.string key) ∧ w'.cell? ⟨g, off + lo * 11 + 2, none⟩ = some (.bool dur) ∧ w'.cell? ⟨g, off + lo * 11 + 3, none⟩ = some (.bool red) ∧ w'.cell? ⟨g, off + lo * 11 + 4, none⟩ = some (.string mid) ∧ w'.cell? ⟨g, off + lo * 11 + 5, none⟩ = some (.int .u8 uk) ∧ w'.cell? ⟨g, off + lo * 11 + 6, none⟩ = some (.int .u64 un) ∧ w'.cell? ⟨g, off + lo * 11 + 7, none⟩ = some (.string us) ∧ w'.cell? ⟨g, off + lo * 11 + 8, none⟩ = some (.slice uka uks.length ukc) ∧ w'.cell? ⟨g, off + lo * 11 + 9, none⟩ = some (.slice ula ul.length ulc) ∧ w'.cell? ⟨g, off + lo * 11 + 10, none⟩ = some (.string body)) (first | exact ⟨c0, c1, c2, c3, c4, c5, c6, c7, c8, c9, c10⟩ | exact ⟨d0, d1, d2, d3, d4, d5, d6, d7, d8, d9, d10⟩) ((go_at_call 181; (with_reducible refine (hF1h.out _ (aad hB)).mono ?_); rintro e w1 ⟨rfl, hB2⟩; obtain ⟨d0, d1, d2, d3, d4, d5, d6, d7, d8, d9, d10⟩ := afh (hsrh.out.drew.pure hB2) hll hxh.out; have hB3 := (aad hB).trans (hB2.mono hB.size); have hZ3 := hZr.drew.pure hB2; clear c0 c1 c2 c3 c4 c5 c6 c7 c8 c9 c10)); exact aeq
   ·have hd1 : decide ((lo : Int) < (L.length : Int)) = false := qg (by omega)
    have hd2 : decide (lo < L.length) = false := qg hll; have hfd := qq (show acv ad8 MsT.id L y = false by rw [hend.out.2]; exact qg (fun h => hll h.1)); exact afk
theorem bdf (w : World) (v : Value) (L : List MsT) (b : Nat) (yq : ByteArray) (y : Int) (hs : Slc abl 11 w v L) (P : Nat → Prop) (hE : ∀ m ∈ L, Rd P w m.pr.app) (hr : RisK ad8 MsT.id L) (hL : L.length ≤ 1000000) (hb : Blk w b [.string yq, .int .u64 y]) :
 Calls prog 149 #[v, .func (.func 150) #[] #[.pointer (some ⟨b, 0, none⟩)]] w fun e w' => e = .returned (.tuple #[.int .i64 (lbK ad8 MsT.id L y : Nat), .bool (acv ad8 MsT.id L y)]) ∧ Below w.heap.size w w' := by
 have hB1 := (qz w.heap.size w).alloc (qj _) (.cells #[.func (.func 150) #[] #[.pointer (some ⟨b, 0, none⟩)]] 176)
 have hf := Blk.new w [.func (.func 150) #[] #[.pointer (some ⟨b, 0, none⟩)]] 176
 have hbin := qq (bd8 _ v L b w.heap.size yq y (hs.pure hB1) P (fun x hx => (hE x hx).pure hB1) hr hL (hb.pure hB1) hf)
 obtain ⟨va, vn, vc, rfl⟩ := hs.shape3
 clear hr
 go_enter func149, ntmps149
 go_wp2_with (go_at_call 180; (with_reducible refine hbin.out.mono ?_); rintro e w1 ⟨rfl, hB2⟩; have hB := hB1.trans (hB2.mono hB1.size))
 go_ret2
 exact ⟨rfl, hB⟩
theorem atQ (w : World) (nx : Int) (qa : Option Addr) (qn qc : Nat) (ba : Option Addr) (bn bc : Nat) (ha : Option Addr) (hn hc : Nat) (L : List QuT) (y : ByteArray) (hs : Slc aar 3 w (.slice qa qn qc) L) (P : Nat → Prop) (hE : ∀ q ∈ L, MsRd P w q.mv q.zw) (hr : RisK abf QuT.name L) (hL : L.length ≤ 1000000) :
 Calls prog 88 #[.agg #[.int .u64 nx, .slice qa qn qc, .slice ba bn bc, .slice ha hn hc], .string y] w fun e w' => e = .returned (.tuple #[.int .i64 (lbK abf QuT.name L y : Nat), .bool (acv abf QuT.name L y)]) ∧ Below w.heap.size w w' := by
 have hB1 := ((qz w.heap.size w).alloc (qj _) (.cells #[.int .u64 nx, .slice qa qn qc, .slice ba bn bc, .slice ha hn hc] 27)).alloc (by simp) (.cells #[.string y] 9)
 have A := (Blk.new w [.int .u64 nx, .slice qa qn qc, .slice ba bn bc, .slice ha hn hc] 27).alloc (.cells #[.string y] 9)
 have B := Blk.newE (w.alloc (.cells #[.int .u64 nx, .slice qa qn qc, .slice ba bn bc, .slice ha hn hc] 27)) [.string y] 9 (w.heap.size + 1) (by simp)
 have hfi := qq (bdc _ (.slice qa qn qc) L (w.heap.size + 1) y (hs.pure hB1) P (fun x hx => (hE x hx).pure hB1) hr hL B)
 have c0 := A.at 1 rfl
 clear hr
 go_enter func88, ntmps88
 go_wp2_with (go_at_call 137; (with_reducible refine hfi.out.mono ?_); rintro e w1 ⟨rfl, hB2⟩; have hB := hB1.trans (hB2.mono hB1.size))
 go_ret2
 exact ⟨rfl, hB⟩
theorem atB (w : World) (nx : Int) (qa : Option Addr) (qn qc : Nat) (ba : Option Addr) (bn bc : Nat) (ha : Option Addr) (hn hc : Nat) (L : List BrT) (yf : Int) (yg yb : ByteArray) (hs : Slc aa7 5 w (.slice ba bn bc) L) (P : Nat → Prop) (hE : ∀ b ∈ L, EnRd P w b.en) (hr : RisK aav BrT.x L) (hL : L.length ≤ 1000000) :
 Calls prog 52 #[.agg #[.int .u64 nx, .slice qa qn qc, .slice ba bn bc, .slice ha hn hc], .agg #[.int .u32 yf, .string yg, .string yb]] w fun e w' => e = .returned (.tuple #[.int .i64 (lbK aav BrT.x L (yf, yg, yb) : Nat), .bool (acv aav BrT.x L (yf, yg, yb))]) ∧ Below w.heap.size w w' := by
 have hB1 := ((qz w.heap.size w).alloc (qj _) (.cells #[.int .u64 nx, .slice qa qn qc, .slice ba bn bc, .slice ha hn hc] 27)).alloc (by simp) (.cells #[.int .u32 yf, .string yg, .string yb] 30)
 have A := (Blk.new w [.int .u64 nx, .slice qa qn qc, .slice ba bn bc, .slice ha hn hc] 27).alloc (.cells #[.int .u32 yf, .string yg, .string yb] 30)
 have B := Blk.newE (w.alloc (.cells #[.int .u64 nx, .slice qa qn qc, .slice ba bn bc, .slice ha hn hc] 27)) [.int .u32 yf, .string yg, .string yb] 30 (w.heap.size + 1) (by simp)
 have hfi := qq (bdd _ (.slice ba bn bc) L (w.heap.size + 1) yf yg yb (hs.pure hB1) P (fun x hx => (hE x hx).pure hB1) hr hL B)
 have c0 := A.at 2 rfl
 clear hr
 go_enter func52, ntmps52
 go_wp2_with (go_at_call 119; (with_reducible refine hfi.out.mono ?_); rintro e w1 ⟨rfl, hB2⟩; have hB := hB1.trans (hB2.mono hB1.size))
 go_ret2
 exact ⟨rfl, hB⟩
theorem atH (w : World) (nx : Int) (qa : Option Addr) (qn qc : Nat) (ba : Option Addr) (bn bc : Nat) (ha : Option Addr) (hn hc : Nat) (L : List He) (yf : Int) (yg yb : ByteArray) (hs : Slc adp 4 w (.slice ha hn hc) L) (hr : RisK aav He.x L) (hL : L.length ≤ 1000000) :
 Calls prog 98 #[.agg #[.int .u64 nx, .slice qa qn qc, .slice ba bn bc, .slice ha hn hc], .agg #[.int .u32 yf, .string yg, .string yb]] w fun e w' => e = .returned (.tuple #[.int .i64 (lbK aav He.x L (yf, yg, yb) : Nat), .bool (acv aav He.x L (yf, yg, yb))]) ∧ Below w.heap.size w w' := by
 have hB1 := ((qz w.heap.size w).alloc (qj _) (.cells #[.int .u64 nx, .slice qa qn qc, .slice ba bn bc, .slice ha hn hc] 27)).alloc (by simp) (.cells #[.int .u32 yf, .string yg, .string yb] 30)
 have A := (Blk.new w [.int .u64 nx, .slice qa qn qc, .slice ba bn bc, .slice ha hn hc] 27).alloc (.cells #[.int .u32 yf, .string yg, .string yb] 30)
 have B := Blk.newE (w.alloc (.cells #[.int .u64 nx, .slice qa qn qc, .slice ba bn bc, .slice ha hn hc] 27)) [.int .u32 yf, .string yg, .string yb] 30 (w.heap.size + 1) (by simp)
 have hfi := qq (bde _ (.slice ha hn hc) L (w.heap.size + 1) yf yg yb (hs.pure hB1) hr hL B)
 have c0 := A.at 3 rfl
 clear hr
 go_enter func98, ntmps98
 go_wp2_with (go_at_call 144; (with_reducible refine hfi.out.mono ?_); rintro e w1 ⟨rfl, hB2⟩; have hB := hB1.trans (hB2.mono hB1.size))
 go_ret2
 exact ⟨rfl, hB⟩
structure QsOk (qs : List QuT) : Prop where
 rq : RisK abf QuT.name qs
 rm : ∀ q ∈ qs, RisK ad8 MsT.id q.zw
 lq : qs.length ≤ 1000000
 lm : ∀ q ∈ qs, q.zw.length ≤ 1000000
structure QsRd (P : Nat → Prop) (w : World) (v : Value) (qs : List QuT) : Prop where
 s : Slc aar 3 w v qs
 sP : ∀ k, v.ownBlock = some k → qs ≠ [] → P k
 m : ∀ q ∈ qs, MsRd P w q.mv q.zw
theorem QsRd.pure {P : Nat → Prop} {w w' : World} {v : Value} {l : List QuT} (h : QsRd P w v l) (hB : Below w.heap.size w w') : QsRd P w' v l := ⟨h.s.pure hB, h.sP, fun q hq => (h.m q hq).pure hB⟩
theorem StRd.qs {P : Nat → Prop} {w : World} {t : StT} (h : StRd P w t) : QsRd P w t.qv t.qs := ⟨h.q, h.qP, h.m⟩
def aqg (qs : List QuT) (r : Rf) : Nat × Nat × Bool :=
 if acv abf QuT.name qs r.q = true then (match qs[lbK abf QuT.name qs r.q]? with | some q => (lbK abf QuT.name qs r.q, lbK ad8 MsT.id q.zw r.id, acv ad8 MsT.id q.zw r.id) | none => (0, 0, false)) else (0, 0, false)
theorem aqh {n : Int} {qs : List QuT} {r : Rf} (h : qsB n (qs.map QuT.q) = true) : (aqg qs r).2.2 = hasM (qs.map QuT.q) r := by
 rw [azp h, ← anm]
 unfold aqg
 by_cases hh : acv abf QuT.name qs r.q = true
 ·obtain ⟨h1, -⟩ := aec cmpB_ok (awq h) hh
  rw [qw hh, dif_pos h1, List.getElem?_eq_getElem h1, hh]; simp
 ·rw [qk hh]
  have : acv abf QuT.name qs r.q = false := by simpa using hh
  rw [this]; rfl
theorem ag6 (w : World) (nx : Int) (qa : Option Addr) (qc : Nat) (ba : Option Addr) (bn bc : Nat) (ha : Option Addr) (hn hc : Nat) (qs : List QuT) (P : Nat → Prop) (q : ByteArray) (id : Int) (hR : QsRd P w (.slice qa qs.length qc) qs) (hok : QsOk qs) :
 Calls prog 101 #[.agg #[.int .u64 nx, .slice qa qs.length qc, .slice ba bn bc, .slice ha hn hc], .agg #[.string q, .int .u64 id]] w fun e w' => e = .returned (.tuple #[.int .i64 ((aqg qs ⟨q, id⟩).1 : Nat), .int .i64 ((aqg qs ⟨q, id⟩).2.1 : Nat), .bool (aqg qs ⟨q, id⟩).2.2]) ∧ Below w.heap.size w w' := by
 have hB1 := ((qz w.heap.size w).alloc (qj _) (.cells #[.int .u64 nx, .slice qa qs.length qc, .slice ba bn bc, .slice ha hn hc] 27)).alloc (by simp) (.cells #[.string q, .int .u64 id] 68)
 have A := (Blk.new w [.int .u64 nx, .slice qa qs.length qc, .slice ba bn bc, .slice ha hn hc] 27).alloc (.cells #[.string q, .int .u64 id] 68)
 have B := Blk.newE (w.alloc (.cells #[.int .u64 nx, .slice qa qs.length qc, .slice ba bn bc, .slice ha hn hc] 27)) [.string q, .int .u64 id] 68 (w.heap.size + 1) (by simp)
 have hat := qq (atQ _ nx qa qs.length qc ba bn bc ha hn hc qs q (hR.s.pure hB1) P (fun x hx => (hR.m x hx).pure hB1) hok.rq hok.lq)
 obtain ⟨c0, c1, c2, c3⟩ := A.a4; have d0 := B.at 0 rfl
 obtain ⟨i, hi⟩ := zz (lbK abf QuT.name qs q)
 obtain ⟨h, hh⟩ := zz (acv abf QuT.name qs q)
 have hM := qq (show aqg qs ⟨q, id⟩ = if h = true then (match qs[i]? with | some t => (i, lbK ad8 MsT.id t.zw id, acv ad8 MsT.id t.zw id) | none => (0, 0, false)) else (0, 0, false) by subst hi; subst hh; rfl)
 have hat2 := hat.out
 have hlt := qq (fun (e : h = true) => show ∃ h : i < qs.length, True by rw [← hh] at e; obtain ⟨h1, -⟩ := aec cmpB_ok hok.rq e; rw [hi] at h1; exact ⟨h1, trivial⟩)
 rw [hi, hh] at hat2
 have hat := qq hat2
 have hokh := qq hok; have hRh := qq hR
 have hql := hok.lq
 clear hat2 hi hh hok hR
 cases h
 ·simp only [Bool.false_eq_true, if_false] at hM
  rw [hM.out]; go_enter func101, ntmps101; go_wp2_with (go_at_call 88; (with_reducible refine hat.out.mono ?_); rintro e w1 ⟨rfl, hB2⟩; have hB := hB1.trans (hB2.mono hB1.size)); go_ret3; exact ⟨rfl, hB⟩
 ·obtain ⟨hil, -⟩ := hlt.out rfl
  simp only [if_true] at hM; have hM1 := hM.out; rw [List.getElem?_eq_getElem hil] at hM1; dsimp only at hM1; have hRr := hRh.out.m _ (qy hil); rcases hx : qs[i] with ⟨name, lim, mv, zw⟩; have hml := hokh.out.lm _ (qy hil); have hmr := hokh.out.rm _ (qy hil); rw [hx] at hM1 hRr hml hmr; dsimp only at hM1 hRr hml hmr; obtain ⟨ma, mc, rfl, -⟩ := hRr.s.len; rw [hM1]; dsimp only; obtain ⟨k, hk⟩ := zz (lbK ad8 MsT.id zw id); obtain ⟨b, hb⟩ := zz (acv ad8 MsT.id zw id); have hfi := fun (u : World) (h : Below w.heap.size w u) (hb : Blk u (w.heap.size + 1) [.string q, .int .u64 id]) => bdf u (.slice ma zw.length mc) zw (w.heap.size + 1) q id (hRr.s.pure h) P (fun x hx => (hRr.r x hx).pure h) hmr hml hb
  rw [hk, hb] at hfi ⊢; have hfih := qq hfi; have hxh := qq hx; have hi1 : (i : Int) < (qs.length : Int) := by omega
  have hi0 : (0 : Int) ≤ (i : Int) := by omega
  clear hM hM1 hlt hk hb hfi hx hRr hml hmr; go_enter func101, ntmps101; go_upto_region 4 with (go_at_call 88; (with_reducible refine hat.out.mono ?_); rintro e w1 ⟨rfl, hB2⟩; have hB := hB1.trans (hB2.mono hB1.size)); have A2 := A.pure hB2; have B2 := B.pure hB2; have hS := hRh.out.s.pure hB; obtain ⟨g, off, rfl⟩ := hS.addrB hil; obtain ⟨-, -, q2⟩ := aby hS hil hxh.out; clear c0 c1 c2 c3 d0; have c1 := A2.at 1 rfl; go_wp2_with (go_at_call 149; (with_reducible refine (hfih.out _ hB B2).mono ?_); rintro e w2 ⟨rfl, hB3⟩; have hF := hB.trans (hB3.mono hB.size)); go_ret3; exact ⟨rfl, hF⟩
theorem bdg (w : World) (name1 : ByteArray) (lim1 : Int) (ma1 : Option Addr) (mn1 mc1 : Nat) (name2 : ByteArray) (lim2 : Int) (ma2 : Option Addr) (mn2 mc2 : Nat) : Calls prog 113 #[.agg #[.string name1, .int .u64 lim1, .slice ma1 mn1 mc1], .agg #[.string name2, .int .u64 lim2, .slice ma2 mn2 mc2]] w fun e w' => e = .returned (.int .i64 (abf name1 name2)) ∧ Below w.heap.size w w' := by
 have hB := ((qz w.heap.size w).alloc (qj _) (.cells #[.string name1, .int .u64 lim1, .slice ma1 mn1 mc1] 51)).alloc (by simp) (.cells #[.string name2, .int .u64 lim2, .slice ma2 mn2 mc2] 51)
 have A := (Blk.new w [.string name1, .int .u64 lim1, .slice ma1 mn1 mc1] 51).alloc (.cells #[.string name2, .int .u64 lim2, .slice ma2 mn2 mc2] 51)
 have B := Blk.newE (w.alloc (.cells #[.string name1, .int .u64 lim1, .slice ma1 mn1 mc1] 51)) [.string name2, .int .u64 lim2, .slice ma2 mn2 mc2] 51 (w.heap.size + 1) (by simp)
 have c0 := A.at 0 rfl; have d0 := B.at 0 rfl
 go_enter func113, ntmps113
 go_wp2_with (go_at_call 114; refine (apa _ _ _).mono ?_; rintro e w' ⟨rfl, rfl⟩)
 go_ret
 exact ⟨rfl, hB⟩
theorem agd {P : Prop} (h : P := by
 go_wp2
 go_roundw
 case rel => exact ⟨k + 1, by omega, .inl (by omega), by go_num, hall2, hB3⟩
 case measure => simp [intOf]; omega) : P := h
theorem age {P : Prop} (h : P := by
 have hj1 : ¬ (k : Int) < (L.length : Int) := by omega
 go_wp2
 go_ret
 exact ⟨by rw [hgood.out]; rfl, hB⟩) : P := h
theorem ahn {P : Prop} (h : P := by
 go_wp2
 go_ret
 exact ⟨by rw [hbad.out]; rfl, hB3⟩) : P := h
theorem bdh (w : World) (v : Value) (L : List QuT) (hs : Slc aar 3 w v L) (P : Nat → Prop) (hE : ∀ q ∈ L, MsRd P w q.mv q.zw) (hL : L.length ≤ 1000000) :
 Calls prog 112 #[v, .func (.func 113) #[] #[]] w fun e w' => e = .returned (.bool (aia abf QuT.name L)) ∧ Below w.heap.size w w' := by
 obtain ⟨va, cap, rfl, -⟩ := hs.len
 have hE := qq hE
 have hsh := qq hs
 clear hs
 have hlm : (L.length : Int) ≤ 1000000 := by omega
 go_enter func112, ntmps112
 go_wp2
 go_loopw [5] (fun s5 wr => ∃ k : Nat, 1 ≤ k ∧ (k ≤ L.length ∨ k = 1) ∧ s5 = .int .i64 k ∧ Hid (∀ i, (h : i + 1 < L.length) → i + 1 < k → abf (QuT.name (L[i]'(by omega))) (QuT.name L[i + 1]) < 0) ∧ Below w.heap.size w wr) (fun s5 _ => L.length + 1 - (intOf s5).toNat)
 case atStart => exact ⟨1, qj _, .inr rfl, rfl, qq (fun i h h' => jp h' (by omega)), qz _ _⟩
 case round =>
  obtain ⟨k, hk1, hj, rfl, hall, hB⟩ := hrel; by_cases hlt : k < L.length
  ·have hk1i : (1 : Int) ≤ (k : Int) := by omega
   have hm0 : (0 : Int) ≤ (k : Int) - 1 := by omega
   have hm1 : (k : Int) - 1 < (L.length : Int) := by omega
   have ik0 : (0 : Int) ≤ (k : Int) ∧ (k : Int) < (L.length : Int) := by omega
   have hmn : ((k : Int) - 1).toNat = k - 1 := by omega
   have hltj : k - 1 < L.length := by omega
   have hsrh := qq (hsh.out.pure hB); obtain ⟨g, off, rfl⟩ := hsrh.out.addrB hlt; have hE1 := fun x hx => (hE.out x hx).pure hB
   obtain ⟨name1, lim1, ma1, mc1, msgs1, hx1, -⟩ := aep hsrh.out hltj (hE1 _ (qy hltj)); obtain ⟨name2, lim2, ma2, mc2, msgs2, hx2, -⟩ := aep hsrh.out hlt (hE1 _ (qy hlt)); have hcc : abf (QuT.name L[k - 1]) (QuT.name L[k]) = abf name1 name2 := by rw [hx1, hx2]
   have hF := fun (u : World) => bdg u name1 lim1 ma1 msgs1.length mc1 name2 lim2 ma2 msgs2.length mc2
   obtain ⟨cc, hc⟩ := zz (abf name1 name2); rw [hc] at hcc hF; have hch := qq hcc; have hFh := qq hF; have hx1h := qq hx1; have hx2h := qq hx2; have hw1 : IntKind.i64.wrap ((k : Int) - 1) = (k : Int) - 1 := by rw [IntKind.wrap_i64]; omega
   clear hcc hc hF hx1 hx2 hE1; obtain ⟨c0, c1, c2⟩ := aby hsrh.out hltj hx1h.out; obtain ⟨d0, d1, d2⟩ := aby hsrh.out hlt hx2h.out; by_cases hq : cc < 0
   ·have hall2 := qq (show ∀ i, (h : i + 1 < L.length) → i + 1 < k + 1 → abf (QuT.name (L[i]'(by omega))) (QuT.name L[i + 1]) < 0 from fun i h hi => by
     rcases Nat.lt_or_ge (i + 1) k with q | q
     ·exact hall.out i h q
     ·obtain rfl : i = k - 1 := by omega
      have e : k - 1 + 1 = k := by omega
      simp only [e]
      rw [hch.out]; exact hq)
    have hq1 : decide (0 ≤ cc) = false := qg (by omega); have hq2 : ¬ 0 ≤ cc := by omega
    clear hq; go_wp2; go_region_held3 (fun w' => w'.cell? ⟨g, off + (k - 1) * 3, none⟩ = some (.string name1) ∧ w'.cell? ⟨g, off + (k - 1) * 3 + 1, none⟩ = some (.int .u64 lim1) ∧ w'.cell? ⟨g, off + (k - 1) * 3 + 2, none⟩ = some (.slice ma1 msgs1.length mc1) ∧ w'.cell? ⟨g, off + k * 3, none⟩ = some (.string name2) ∧ w'.cell? ⟨g, off + k * 3 + 1, none⟩ = some (.int .u64 lim2) ∧ w'.cell? ⟨g, off + k * 3 + 2, none⟩ = some (.slice ma2 msgs2.length mc2)) (first | exact ⟨c0, c1, c2, d0, d1, d2⟩ | exact ⟨e0, e1, e2, f0, f1, f2⟩) ((go_at_call 113; (with_reducible refine (hFh.out _).mono ?_); rintro e w1 ⟨rfl, hB2⟩; obtain ⟨e0, e1, e2⟩ := aby (hsrh.out.drew.pure hB2) hltj hx1h.out; obtain ⟨f0, f1, f2⟩ := aby (hsrh.out.drew.pure hB2) hlt hx2h.out; have hB3 := (aad hB).trans (hB2.mono hB.size); clear c0 c1 c2 d0 d1 d2)); exact agd
   ·have hbad := qq (show aia abf QuT.name L = false by
     cases hr : aia abf QuT.name L with
     | false => rfl
     | true =>
      unfold aia at hr; have h := ahi.1 hr (k - 1) (by omega); have e : k - 1 + 1 = k := by omega
      simp only [e, qm] at h; rw [hch.out] at h
      exact jp h hq)
    have hq1 : decide (0 ≤ cc) = true := qp (by omega); have hq2 : 0 ≤ cc := by omega
    clear hq; go_wp2; go_region_held3 (fun w' => w'.cell? ⟨g, off + (k - 1) * 3, none⟩ = some (.string name1) ∧ w'.cell? ⟨g, off + (k - 1) * 3 + 1, none⟩ = some (.int .u64 lim1) ∧ w'.cell? ⟨g, off + (k - 1) * 3 + 2, none⟩ = some (.slice ma1 msgs1.length mc1) ∧ w'.cell? ⟨g, off + k * 3, none⟩ = some (.string name2) ∧ w'.cell? ⟨g, off + k * 3 + 1, none⟩ = some (.int .u64 lim2) ∧ w'.cell? ⟨g, off + k * 3 + 2, none⟩ = some (.slice ma2 msgs2.length mc2)) (first | exact ⟨c0, c1, c2, d0, d1, d2⟩ | exact ⟨e0, e1, e2, f0, f1, f2⟩) ((go_at_call 113; (with_reducible refine (hFh.out _).mono ?_); rintro e w1 ⟨rfl, hB2⟩; obtain ⟨e0, e1, e2⟩ := aby (hsrh.out.drew.pure hB2) hltj hx1h.out; obtain ⟨f0, f1, f2⟩ := aby (hsrh.out.drew.pure hB2) hlt hx2h.out; have hB3 := (aad hB).trans (hB2.mono hB.size); clear c0 c1 c2 d0 d1 d2)); exact ahn
  ·have hgood := qq (show aia abf QuT.name L = true by
    unfold aia; rw [ahi]; intro i h; rw [qm]
    exact hall.out i h (by omega))
   exact age
theorem alm {P : Prop} (h : P := by
 go_wp2_with (go_at_call 51; refine (ajo _ (xf1, xg1, xb1) (xf2, xg2, xb2)).mono ?_; rintro e w1 ⟨rfl, hB1⟩; have hB := hB.trans (hB1.mono hB.size))
 go_ret
 exact ⟨rfl, hB⟩) : P := h
theorem bdi (w : World) (xf1 : Int) (xg1 xb1 : ByteArray) (pa1 : Option Addr) (pn1 pc1 : Nat) (ta1 : Option Addr) (tn1 tc1 : Nat) (xf2 : Int) (xg2 xb2 : ByteArray) (pa2 : Option Addr) (pn2 pc2 : Nat) (ta2 : Option Addr) (tn2 tc2 : Nat) : Calls prog 116 #[.agg #[.int .u32 xf1, .string xg1, .string xb1, .slice pa1 pn1 pc1, .slice ta1 tn1 tc1], .agg #[.int .u32 xf2, .string xg2, .string xb2, .slice pa2 pn2 pc2, .slice ta2 tn2 tc2]] w fun e w' => e = .returned (.int .i64 (aav (xf1, xg1, xb1) (xf2, xg2, xb2))) ∧ Below w.heap.size w w' := by
 have hB := ((qz w.heap.size w).alloc (qj _) (.cells #[.int .u32 xf1, .string xg1, .string xb1, .slice pa1 pn1 pc1, .slice ta1 tn1 tc1] 62)).alloc (by simp) (.cells #[.int .u32 xf2, .string xg2, .string xb2, .slice pa2 pn2 pc2, .slice ta2 tn2 tc2] 62)
 have A := (Blk.new w [.int .u32 xf1, .string xg1, .string xb1, .slice pa1 pn1 pc1, .slice ta1 tn1 tc1] 62).alloc (.cells #[.int .u32 xf2, .string xg2, .string xb2, .slice pa2 pn2 pc2, .slice ta2 tn2 tc2] 62)
 have B := Blk.newE (w.alloc (.cells #[.int .u32 xf1, .string xg1, .string xb1, .slice pa1 pn1 pc1, .slice ta1 tn1 tc1] 62)) [.int .u32 xf2, .string xg2, .string xb2, .slice pa2 pn2 pc2, .slice ta2 tn2 tc2] 62 (w.heap.size + 1) (by simp)
 obtain ⟨c0, c1, c2⟩ := A.a3; obtain ⟨d0, d1, d2⟩ := B.a3
 go_enter func116, ntmps116
 exact alm
theorem bdj (w : World) (v : Value) (L : List BrT) (hs : Slc aa7 5 w v L) (P : Nat → Prop) (hE : ∀ b ∈ L, EnRd P w b.en) (hL : L.length ≤ 1000000) :
 Calls prog 115 #[v, .func (.func 116) #[] #[]] w fun e w' => e = .returned (.bool (aia aav BrT.x L)) ∧ Below w.heap.size w w' := by
 obtain ⟨va, cap, rfl, -⟩ := hs.len
 have hE := qq hE
 have hsh := qq hs
 clear hs
 have hlm : (L.length : Int) ≤ 1000000 := by omega
 go_enter func115, ntmps115
 go_wp2
 go_loopw [5] (fun s5 wr => ∃ k : Nat, 1 ≤ k ∧ (k ≤ L.length ∨ k = 1) ∧ s5 = .int .i64 k ∧ Hid (∀ i, (h : i + 1 < L.length) → i + 1 < k → aav (BrT.x (L[i]'(by omega))) (BrT.x L[i + 1]) < 0) ∧ Below w.heap.size w wr) (fun s5 _ => L.length + 1 - (intOf s5).toNat)
 case atStart => exact ⟨1, qj _, .inr rfl, rfl, qq (fun i h h' => jp h' (by omega)), qz _ _⟩
 case round =>
  obtain ⟨k, hk1, hj, rfl, hall, hB⟩ := hrel; by_cases hlt : k < L.length
  ·have hk1i : (1 : Int) ≤ (k : Int) := by omega
   have hm0 : (0 : Int) ≤ (k : Int) - 1 := by omega
   have hm1 : (k : Int) - 1 < (L.length : Int) := by omega
   have ik0 : (0 : Int) ≤ (k : Int) ∧ (k : Int) < (L.length : Int) := by omega
   have hmn : ((k : Int) - 1).toNat = k - 1 := by omega
   have hltj : k - 1 < L.length := by omega
   have hsrh := qq (hsh.out.pure hB); obtain ⟨g, off, rfl⟩ := hsrh.out.addrB hlt; have hE1 := fun x hx => (hE.out x hx).pure hB
   obtain ⟨xf1, xg1, xb1, pa1, pc1, ta1, tc1, puts1, takes1, hx1, -⟩ := adq hsrh.out hltj (hE1 _ (qy hltj)); obtain ⟨xf2, xg2, xb2, pa2, pc2, ta2, tc2, puts2, takes2, hx2, -⟩ := adq hsrh.out hlt (hE1 _ (qy hlt)); have hcc : aav (BrT.x L[k - 1]) (BrT.x L[k]) = aav (xf1, xg1, xb1) (xf2, xg2, xb2) := by rw [hx1, hx2]
   have hF := fun (u : World) => bdi u xf1 xg1 xb1 pa1 puts1.length pc1 ta1 takes1.length tc1 xf2 xg2 xb2 pa2 puts2.length pc2 ta2 takes2.length tc2
   obtain ⟨cc, hc⟩ := zz (aav (xf1, xg1, xb1) (xf2, xg2, xb2)); rw [hc] at hcc hF; have hch := qq hcc; have hFh := qq hF; have hx1h := qq hx1; have hx2h := qq hx2; have hw1 : IntKind.i64.wrap ((k : Int) - 1) = (k : Int) - 1 := by rw [IntKind.wrap_i64]; omega
   clear hcc hc hF hx1 hx2 hE1; obtain ⟨c0, c1, c2, c3, c4⟩ := ach hsrh.out hltj hx1h.out; obtain ⟨d0, d1, d2, d3, d4⟩ := ach hsrh.out hlt hx2h.out; by_cases hq : cc < 0
   ·have hall2 := qq (show ∀ i, (h : i + 1 < L.length) → i + 1 < k + 1 → aav (BrT.x (L[i]'(by omega))) (BrT.x L[i + 1]) < 0 from fun i h hi => by
     rcases Nat.lt_or_ge (i + 1) k with q | q
     ·exact hall.out i h q
     ·obtain rfl : i = k - 1 := by omega
      have e : k - 1 + 1 = k := by omega
      simp only [e]
      rw [hch.out]; exact hq)
    have hq1 : decide (0 ≤ cc) = false := qg (by omega); have hq2 : ¬ 0 ≤ cc := by omega
    clear hq; go_wp2; go_region_held3 (fun w' => w'.cell? ⟨g, off + (k - 1) * 5, none⟩ = some (.int .u32 xf1) ∧ w'.cell? ⟨g, off + (k - 1) * 5 + 1, none⟩ = some (.string xg1) ∧ w'.cell? ⟨g, off + (k - 1) * 5 + 2, none⟩ = some (.string xb1) ∧ w'.cell? ⟨g, off + (k - 1) * 5 + 3, none⟩ = some (.slice pa1 puts1.length pc1) ∧ w'.cell? ⟨g, off + (k - 1) * 5 + 4, none⟩ = some (.slice ta1 takes1.length tc1) ∧ w'.cell? ⟨g, off + k * 5, none⟩ = some (.int .u32 xf2) ∧ w'.cell? ⟨g, off + k * 5 + 1, none⟩ = some (.string xg2) ∧ w'.cell? ⟨g, off + k * 5 + 2, none⟩ = some (.string xb2) ∧ w'.cell? ⟨g, off + k * 5 + 3, none⟩ = some (.slice pa2 puts2.length pc2) ∧ w'.cell? ⟨g, off + k * 5 + 4, none⟩ = some (.slice ta2 takes2.length tc2)) (first | exact ⟨c0, c1, c2, c3, c4, d0, d1, d2, d3, d4⟩ | exact ⟨e0, e1, e2, e3, e4, f0, f1, f2, f3, f4⟩) ((go_at_call 116; (with_reducible refine (hFh.out _).mono ?_); rintro e w1 ⟨rfl, hB2⟩; obtain ⟨e0, e1, e2, e3, e4⟩ := ach (hsrh.out.drew.pure hB2) hltj hx1h.out; obtain ⟨f0, f1, f2, f3, f4⟩ := ach (hsrh.out.drew.pure hB2) hlt hx2h.out; have hB3 := (aad hB).trans (hB2.mono hB.size); clear c0 c1 c2 c3 c4 d0 d1 d2 d3 d4)); exact agd
   ·have hbad := qq (show aia aav BrT.x L = false by
     cases hr : aia aav BrT.x L with
     | false => rfl
     | true =>
      unfold aia at hr; have h := ahi.1 hr (k - 1) (by omega); have e : k - 1 + 1 = k := by omega
      simp only [e, qm] at h; rw [hch.out] at h
      exact jp h hq)
    have hq1 : decide (0 ≤ cc) = true := qp (by omega); have hq2 : 0 ≤ cc := by omega
    clear hq; go_wp2; go_region_held3 (fun w' => w'.cell? ⟨g, off + (k - 1) * 5, none⟩ = some (.int .u32 xf1) ∧ w'.cell? ⟨g, off + (k - 1) * 5 + 1, none⟩ = some (.string xg1) ∧ w'.cell? ⟨g, off + (k - 1) * 5 + 2, none⟩ = some (.string xb1) ∧ w'.cell? ⟨g, off + (k - 1) * 5 + 3, none⟩ = some (.slice pa1 puts1.length pc1) ∧ w'.cell? ⟨g, off + (k - 1) * 5 + 4, none⟩ = some (.slice ta1 takes1.length tc1) ∧ w'.cell? ⟨g, off + k * 5, none⟩ = some (.int .u32 xf2) ∧ w'.cell? ⟨g, off + k * 5 + 1, none⟩ = some (.string xg2) ∧ w'.cell? ⟨g, off + k * 5 + 2, none⟩ = some (.string xb2) ∧ w'.cell? ⟨g, off + k * 5 + 3, none⟩ = some (.slice pa2 puts2.length pc2) ∧ w'.cell? ⟨g, off + k * 5 + 4, none⟩ = some (.slice ta2 takes2.length tc2)) (first | exact ⟨c0, c1, c2, c3, c4, d0, d1, d2, d3, d4⟩ | exact ⟨e0, e1, e2, e3, e4, f0, f1, f2, f3, f4⟩) ((go_at_call 116; (with_reducible refine (hFh.out _).mono ?_); rintro e w1 ⟨rfl, hB2⟩; obtain ⟨e0, e1, e2, e3, e4⟩ := ach (hsrh.out.drew.pure hB2) hltj hx1h.out; obtain ⟨f0, f1, f2, f3, f4⟩ := ach (hsrh.out.drew.pure hB2) hlt hx2h.out; have hB3 := (aad hB).trans (hB2.mono hB.size); clear c0 c1 c2 c3 c4 d0 d1 d2 d3 d4)); exact ahn
  ·have hgood := qq (show aia aav BrT.x L = true by
    unfold aia; rw [ahi]; intro i h; rw [qm]
    exact hall.out i h (by omega))
   exact age
theorem bdk (w : World) (xf1 : Int) (xg1 xb1 : ByteArray) (hc1 : Bool) (xf2 : Int) (xg2 xb2 : ByteArray) (hc2 : Bool) : Calls prog 50 #[.agg #[.int .u32 xf1, .string xg1, .string xb1, .bool hc1], .agg #[.int .u32 xf2, .string xg2, .string xb2, .bool hc2]] w fun e w' => e = .returned (.int .i64 (aav (xf1, xg1, xb1) (xf2, xg2, xb2))) ∧ Below w.heap.size w w' := by
 have hB := ((qz w.heap.size w).alloc (qj _) (.cells #[.int .u32 xf1, .string xg1, .string xb1, .bool hc1] 90)).alloc (by simp) (.cells #[.int .u32 xf2, .string xg2, .string xb2, .bool hc2] 90)
 have A := (Blk.new w [.int .u32 xf1, .string xg1, .string xb1, .bool hc1] 90).alloc (.cells #[.int .u32 xf2, .string xg2, .string xb2, .bool hc2] 90)
 have B := Blk.newE (w.alloc (.cells #[.int .u32 xf1, .string xg1, .string xb1, .bool hc1] 90)) [.int .u32 xf2, .string xg2, .string xb2, .bool hc2] 90 (w.heap.size + 1) (by simp)
 obtain ⟨c0, c1, c2⟩ := A.a3; obtain ⟨d0, d1, d2⟩ := B.a3
 go_enter func50, ntmps50
 exact alm
theorem bdl (w : World) (v : Value) (L : List He) (hs : Slc adp 4 w v L) (hL : L.length ≤ 1000000) :
 Calls prog 49 #[v, .func (.func 50) #[] #[]] w fun e w' => e = .returned (.bool (aia aav He.x L)) ∧ Below w.heap.size w w' := by
 obtain ⟨va, cap, rfl, -⟩ := hs.len
 have hsh := qq hs
 clear hs
 have hlm : (L.length : Int) ≤ 1000000 := by omega
 go_enter func49, ntmps49
 go_wp2
 go_loopw [5] (fun s5 wr => ∃ k : Nat, 1 ≤ k ∧ (k ≤ L.length ∨ k = 1) ∧ s5 = .int .i64 k ∧ Hid (∀ i, (h : i + 1 < L.length) → i + 1 < k → aav (He.x (L[i]'(by omega))) (He.x L[i + 1]) < 0) ∧ Below w.heap.size w wr) (fun s5 _ => L.length + 1 - (intOf s5).toNat)
 case atStart => exact ⟨1, qj _, .inr rfl, rfl, qq (fun i h h' => jp h' (by omega)), qz _ _⟩
 case round =>
  obtain ⟨k, hk1, hj, rfl, hall, hB⟩ := hrel; by_cases hlt : k < L.length
  ·have hk1i : (1 : Int) ≤ (k : Int) := by omega
   have hm0 : (0 : Int) ≤ (k : Int) - 1 := by omega
   have hm1 : (k : Int) - 1 < (L.length : Int) := by omega
   have ik0 : (0 : Int) ≤ (k : Int) ∧ (k : Int) < (L.length : Int) := by omega
   have hmn : ((k : Int) - 1).toNat = k - 1 := by omega
   have hltj : k - 1 < L.length := by omega
   have hsrh := qq (hsh.out.pure hB); obtain ⟨g, off, rfl⟩ := hsrh.out.addrB hlt; obtain ⟨xf1, xg1, xb1, hc1, hx1, -⟩ := agb hsrh.out hltj; obtain ⟨xf2, xg2, xb2, hc2, hx2, -⟩ := agb hsrh.out hlt; have hcc : aav (He.x L[k - 1]) (He.x L[k]) = aav (xf1, xg1, xb1) (xf2, xg2, xb2) := by rw [hx1, hx2]
   have hF := fun (u : World) => bdk u xf1 xg1 xb1 hc1 xf2 xg2 xb2 hc2
   obtain ⟨cc, hc⟩ := zz (aav (xf1, xg1, xb1) (xf2, xg2, xb2)); rw [hc] at hcc hF; have hch := qq hcc; have hFh := qq hF; have hx1h := qq hx1; have hx2h := qq hx2; have hw1 : IntKind.i64.wrap ((k : Int) - 1) = (k : Int) - 1 := by rw [IntKind.wrap_i64]; omega
   clear hcc hc hF hx1 hx2; obtain ⟨c0, c1, c2, c3⟩ := aco hsrh.out hltj hx1h.out; obtain ⟨d0, d1, d2, d3⟩ := aco hsrh.out hlt hx2h.out; by_cases hq : cc < 0
   ·have hall2 := qq (show ∀ i, (h : i + 1 < L.length) → i + 1 < k + 1 → aav (He.x (L[i]'(by omega))) (He.x L[i + 1]) < 0 from fun i h hi => by
     rcases Nat.lt_or_ge (i + 1) k with q | q
     ·exact hall.out i h q
     ·obtain rfl : i = k - 1 := by omega
      have e : k - 1 + 1 = k := by omega
      simp only [e]
      rw [hch.out]; exact hq)
    have hq1 : decide (0 ≤ cc) = false := qg (by omega); have hq2 : ¬ 0 ≤ cc := by omega
    clear hq; go_wp2; go_region_held3 (fun w' => w'.cell? ⟨g, off + (k - 1) * 4, none⟩ = some (.int .u32 xf1) ∧ w'.cell? ⟨g, off + (k - 1) * 4 + 1, none⟩ = some (.string xg1) ∧ w'.cell? ⟨g, off + (k - 1) * 4 + 2, none⟩ = some (.string xb1) ∧ w'.cell? ⟨g, off + (k - 1) * 4 + 3, none⟩ = some (.bool hc1) ∧ w'.cell? ⟨g, off + k * 4, none⟩ = some (.int .u32 xf2) ∧ w'.cell? ⟨g, off + k * 4 + 1, none⟩ = some (.string xg2) ∧ w'.cell? ⟨g, off + k * 4 + 2, none⟩ = some (.string xb2) ∧ w'.cell? ⟨g, off + k * 4 + 3, none⟩ = some (.bool hc2)) (first | exact ⟨c0, c1, c2, c3, d0, d1, d2, d3⟩ | exact ⟨e0, e1, e2, e3, f0, f1, f2, f3⟩) ((go_at_call 50; (with_reducible refine (hFh.out _).mono ?_); rintro e w1 ⟨rfl, hB2⟩; obtain ⟨e0, e1, e2, e3⟩ := aco (hsrh.out.drew.pure hB2) hltj hx1h.out; obtain ⟨f0, f1, f2, f3⟩ := aco (hsrh.out.drew.pure hB2) hlt hx2h.out; have hB3 := (aad hB).trans (hB2.mono hB.size); clear c0 c1 c2 c3 d0 d1 d2 d3)); exact agd
   ·have hbad := qq (show aia aav He.x L = false by
     cases hr : aia aav He.x L with
     | false => rfl
     | true =>
      unfold aia at hr; have h := ahi.1 hr (k - 1) (by omega); have e : k - 1 + 1 = k := by omega
      simp only [e, qm] at h; rw [hch.out] at h
      exact jp h hq)
    have hq1 : decide (0 ≤ cc) = true := qp (by omega); have hq2 : 0 ≤ cc := by omega
    clear hq; go_wp2; go_region_held3 (fun w' => w'.cell? ⟨g, off + (k - 1) * 4, none⟩ = some (.int .u32 xf1) ∧ w'.cell? ⟨g, off + (k - 1) * 4 + 1, none⟩ = some (.string xg1) ∧ w'.cell? ⟨g, off + (k - 1) * 4 + 2, none⟩ = some (.string xb1) ∧ w'.cell? ⟨g, off + (k - 1) * 4 + 3, none⟩ = some (.bool hc1) ∧ w'.cell? ⟨g, off + k * 4, none⟩ = some (.int .u32 xf2) ∧ w'.cell? ⟨g, off + k * 4 + 1, none⟩ = some (.string xg2) ∧ w'.cell? ⟨g, off + k * 4 + 2, none⟩ = some (.string xb2) ∧ w'.cell? ⟨g, off + k * 4 + 3, none⟩ = some (.bool hc2)) (first | exact ⟨c0, c1, c2, c3, d0, d1, d2, d3⟩ | exact ⟨e0, e1, e2, e3, f0, f1, f2, f3⟩) ((go_at_call 50; (with_reducible refine (hFh.out _).mono ?_); rintro e w1 ⟨rfl, hB2⟩; obtain ⟨e0, e1, e2, e3⟩ := aco (hsrh.out.drew.pure hB2) hltj hx1h.out; obtain ⟨f0, f1, f2, f3⟩ := aco (hsrh.out.drew.pure hB2) hlt hx2h.out; have hB3 := (aad hB).trans (hB2.mono hB.size); clear c0 c1 c2 c3 d0 d1 d2 d3)); exact ahn
  ·have hgood := qq (show aia aav He.x L = true by
    unfold aia; rw [ahi]; intro i h; rw [qm]
    exact hall.out i h (by omega))
   exact age
theorem aln {α κ : Type} {c : κ → κ → Int} (hc : IsCmp c) {k : α → κ} {L : List α} (hr : RisK c k L) {i j : Nat} (hi : i < L.length) (hj : j < L.length) (hne : i ≠ j) : k L[i] ≠ k L[j] := by
 intro e
 have h := List.pairwise_iff_getElem.1 hr
 rcases Nat.lt_or_ge i j with q | q
 ·have := h i j hi hj q
  rw [e, hc.refl] at this; omega
 ·have := h j i hj hi (by omega)
  rw [e, hc.refl] at this; omega
theorem ajp {α κ : Type} [DecidableEq κ] {c : κ → κ → Int} (hc : IsCmp c) {k : α → κ} {L : List α} {x : κ} (hr : RisK c k L) {i : Nat} (hi : i < L.length) (hk : k L[i] = x) : L.filter (fun a => decide (k a ≠ x)) = L.eraseIdx i := by
 have hL : L = L.take i ++ L[i] :: L.drop (i + 1) := by rw [← List.drop_eq_getElem_cons hi, List.take_append_drop]
 rw [List.eraseIdx_eq_take_drop_succ]
 conv => lhs; rw [hL]
 rw [List.filter_append, List.filter_cons_of_neg (by simp [hk])]
 congr 1
 ·refine List.filter_eq_self.2 (fun a ha => qp ?_)
  obtain ⟨j, hj, rfl⟩ := List.getElem_of_mem ha; rw [List.length_take] at hj; rw [List.getElem_take, ← hk]; exact aln hc hr (by omega) hi (by omega)
 ·refine List.filter_eq_self.2 (fun a ha => qp ?_)
  obtain ⟨j, hj, rfl⟩ := List.getElem_of_mem ha; rw [List.length_drop] at hj; rw [List.getElem_drop, ← hk]; exact aln hc hr (by omega) hi (by omega)
theorem ann {α β : Type} (f : α → β) (L : List α) (i : Nat) (x : α) : (abj L i x).map f = abj (L.map f) i (f x) := by
 unfold abj; rw [List.map_append, List.map_cons, List.map_take, List.map_drop]
theorem atz {α β κ : Type} (c : κ → κ → Int) (f : α → β) (k : β → κ) (L : List α) (x : κ) : lbK c k (L.map f) x = lbK c (fun a => k (f a)) L x := by
 unfold lbK
 induction L with
 | nil => rfl
 | cons a L ih =>
  rw [List.map_cons, List.takeWhile_cons, List.takeWhile_cons]; split
  ·rw [jn, jn, ih]
  ·rfl
theorem azq {qs : List Qu} (hr : RisK abf Qu.name qs) {k : Nat} (hk : k < qs.length) {n : ByteArray} (hn : qs[k].name = n) (f : List Ms → List Ms) : amb qs n f = qs.set k { qs[k] with zw := f qs[k].zw } := by
 unfold amb
 apply List.ext_getElem (by simp)
 intro i h1 h2
 rw [zq, List.getElem_set]
 rw [jf] at h1
 by_cases e : k = i
 ·subst e
  rw [qw hn, qw rfl]
 ·rw [qk e, qk (fun h => aln cmpB_ok hr h1 hk (fun h => e h.symm) (h.trans hn.symm))]
theorem amj {qs : List QuT} (hr : RisK abf QuT.name qs) {k : Nat} (hk : k < qs.length) {n : ByteArray} (hn : qs[k].name = n) (f : List Ms → List Ms) {v : Value} {L : List MsT} (hL : L.map MsT.m = f (qs[k].zw.map MsT.m)) : amb (qs.map QuT.q) n f = (qs.set k { qs[k] with mv := v, zw := L }).map QuT.q := by
 have h := azq (qs := qs.map QuT.q) (ad6 (c := abf) (k := Qu.name) (g := QuT.q) |>.2 hr) (k := k) (by simpa using hk) (n := n) (by rw [zq]; exact hn) f
 rw [h, List.map_set]
 congr 1
 rw [zq]
 unfold QuT.q
 dsimp only
 rw [hL]
theorem at0 {α β : Type} (f : α → β) (L : List α) (i : Nat) : (L.eraseIdx i).map f = (L.map f).eraseIdx i := by
 rw [List.eraseIdx_eq_take_drop_succ, List.eraseIdx_eq_take_drop_succ, List.map_append, List.map_take, List.map_drop]
def at1 (d : Nat) : Prop := ∀ (w : World) (qb rb vb xb : Nat) (left dp : Int) (b : List UInt8) (k : Int) (ks : List ByteArray) (l : List V) (left2 : Int) (r : List UInt8), PR w qb rb vb left b false → qb < xb → Blk w xb [.int .u8 k, .int .u64 0, .string ⟨#[]⟩, .slice none 0 0, .slice none 0 0] → k = 168 ∨ k = 169 → dp + d = 6 → d ≤ 5 → 0 ≤ left → left ≤ 200 → Big b.length → rdM (rdP d) (k == 168) left b = some (ks, l, left2, r) →
 Calls prog 211 #[.pointer (some ⟨qb, 0, none⟩), .pointer (some ⟨xb, 0, none⟩), .int .i64 dp] w (avz w qb rb vb xb k (some (ks, l, left2, r)))
def apb (d : Nat) : Prop := ∀ (w : World) (qb rb vb : Nat) (left dp : Int) (b : List UInt8) (x : V) (l2 : Int) (r : List UInt8), PR w qb rb vb left b false → dp + d = 7 → d ≤ 6 → 0 ≤ left → left ≤ 200 → Big b.length → rdP d left b = some (x, l2, r) →
 Calls prog 200 #[.pointer (some ⟨qb, 0, none⟩), .int .i64 dp] w (avy w qb rb vb (some (x, l2, r)))
def Sw (w : World) (qb rb vb B : Nat) (x : V) (l2 : Int) (r : List UInt8) (wc : World) : Prop := ∃ t : VT, t.v = x ∧ Rd (fun i => w.heap.size < i) wc t ∧ Blk wc B (ac6 t) ∧ Blk wc w.heap.size [.int .u8 0, .int .u64 0, .string ⟨#[]⟩, .slice none 0 0, .slice none 0 0] ∧ PR wc qb rb vb l2 r false ∧ Upd (Two qb vb) w wc
theorem ano (d : Nat) (hM : ∀ d', d = d' + 1 → at1 d') : apb d := by
 intro w qb rb vb left dp b x l2 r h hd hd6 hl0 hl1 hL hz
 have hq := h.lt
 have hvq := h.vq
 have hs0 := h.setL (left - 1)
 have hb0 : Below (w.setCell ⟨qb, 1, none⟩ (.int .i64 (left - 1))).heap.size (w.setCell ⟨qb, 1, none⟩ (.int .i64 (left - 1))) ((w.setCell ⟨qb, 1, none⟩ (.int .i64 (left - 1))).alloc (.cells #[.int .u8 0, .int .u64 0, .string ⟨#[]⟩, .slice none 0 0, .slice none 0 0] 56)) := (qz _ _).alloc (qj _) _
 have a1 := Blk.newK (w.setCell ⟨qb, 1, none⟩ (.int .i64 (left - 1))) [.int .u8 0, .int .u64 0, .string ⟨#[]⟩, .slice none 0 0, .slice none 0 0] 56 w.heap.size (by simp)
 have h1 := hs0.pure hb0
 have u1 : Upd (Two qb vb) w ((w.setCell ⟨qb, 1, none⟩ (.int .i64 (left - 1))).alloc (.cells #[.int .u8 0, .int .u64 0, .string ⟨#[]⟩, .slice none 0 0, .slice none 0 0] 56)) := (Upd.set (S := Two qb vb) (p := ⟨qb, 1, none⟩) (Or.inl rfl) _).trans (Upd.of_below hb0) (fun _ h _ => h)
 obtain ⟨c0, c1⟩ := h.q.a2; have z1 := h.q.frozen 1
 have d0 := h1.q.at 0 rfl
 rcases d with _ | d
 ·exact jp hz (by unfold rdP; simp)
 have hMany := qq (hM d rfl)
 clear hM
 unfold rdP at hz
 obtain ⟨⟨k, b1⟩, hg', hz⟩ := aah hz
 dsimp only at hz
 by_cases hn1 : left - 1 < 0
 ·rw [qw hn1] at hz; cases hz
 rw [qk hn1] at hz
 have hn2 : 1 ≤ left := by omega
 have hg := qq hg'
 have hk8 : k < 256 := gN8 hg'
 have hL1 : Big b1.length := hL.mono (aks hg').2.1
 have hkw : IntKind.u8.wrap (k : Int) = (k : Int) := by
  have e : IntKind.u8.wrap (k : Int) = (k : Int) % 256 := rfl; rw [e]; omega
 have hd' : dp ≤ 6 := by omega
 have hzh := qq hz
 have hn3 : 0 ≤ left - 1 := by omega
 clear hz hg' hn1
 go_enter func200, ntmps200
 go_upto_block 0 with (first | (go_at_call 169; (with_reducible refine (agy _ qb rb vb (left - 1) b 1 k 1 b1 h1 rfl (by unfold Wd; omega) hg.out hL).mono ?_); rintro e w1 ⟨rfl, p1, hu1⟩; have a2 := a1.upd hu1 (by have := h.vq; unfold acu; omega); have u2 := u1.two (hu1.only_two (qb := qb)); have hb1 := (qz w1.heap.size w1).alloc (qj _) (.cells #[.int .u8 k, .int .u64 0, .string ⟨#[]⟩, .slice none 0 0, .slice none 0 0] 56); have p2 := p1.pure hb1; have a3 := a2.alloc (.cells #[.int .u8 k, .int .u64 0, .string ⟨#[]⟩, .slice none 0 0, .slice none 0 0] 56); have x2 := Blk.new w1 [.int .u8 k, .int .u64 0, .string ⟨#[]⟩, .slice none 0 0, .slice none 0 0] 56; have u3 := u2.two (Upd.of_below hb1); obtain ⟨e0, e1⟩ := p2.q.a2; have f0 := x2.at 0 rfl) | (go_at_call 201; (with_reducible refine (aih _ qb rb vb (left - 1) _ p2).mono ?_); rintro e _ ⟨rfl, rfl⟩))
 have hx0 := qq (show w.heap.size < w1.heap.size by have := a2.lt; omega)
 obtain ⟨B, hB⟩ := zz w1.heap.size
 rw [hB] at x2 hx0 f0 ⊢
 generalize w1.alloc (.cells #[.int .u8 k, .int .u64 0, .string ⟨#[]⟩, .slice none 0 0, .slice none 0 0] 56) = W at p2 a3 x2 u3 e0 e1 f0 ⊢
 clear hB hb1 p1 hu1 a2 u2 a1 u1 h1 hs0 hb0 c0 c1 z1 d0 hg hkw h
 have hx1 := qq (show qb < B by have := hx0.out; omega)
 have hlh := qq hL1; have hWs := qq x2.lt; have hqh := qq hq
 go_cut [] from 35 to 76 (fun wc => Sw w qb rb vb B x l2 r wc)
 case first =>
  have hz := hzh.out; have e2 := x2.frozen 1; have e3 := x2.frozen 2; have f1 := x2.at 1 rfl; have f2 := x2.at 2 rfl; by_cases hk240 : k = 240
  ·rw [qw hk240] at hz
   simp only [jy, jm] at hz; obtain ⟨rfl, rfl, rfl⟩ := hz; subst hk240; go_wp2_with fail; go_meet; exact ⟨.mk 240 0 ⟨#[]⟩ (.slice none 0 0) (.slice none 0 0) [] [], rfl, Rd.leaf (by omega) (by omega) (by omega) (by omega), x2, a3, p2, u3⟩
  rw [qk hk240] at hz; by_cases hk : k = 8 ∨ k = 2
  ·rw [qw hk] at hz
   obtain ⟨⟨n, b2⟩, hg2, hz⟩ := aah hz; simp only [jy, jm] at hz; obtain ⟨rfl, rfl, rfl⟩ := hz; have hg2h := qq hg2; have hnb := qq (aks hg2).1; clear hg2; rcases hk with rfl | rfl
   all_goals
    go_wp2_with (go_at_call 169; (with_reducible refine (agy _ qb rb vb (left - 1) b1 1 n 1 b2 p2 rfl (by unfold Wd; omega) hg2h.out hlh.out).mono ?_); rintro e w3 ⟨rfl, p3, hu3⟩; have x3 := x2.upd hu3 (fun e => by have := hx1.out; unfold acu at e; omega); have g1 := x3.at 1 rfl; have y1 := x3.frozen 1; have a4 := a3.upd hu3 (fun e => by have := hqh.out; unfold acu at e; omega)); go_meet; have hUs := Upd.set (S := fun i => i = B) (w := w3) (p := ⟨B, 1, none⟩) rfl (.int .u64 n); exact ⟨.mk _ n ⟨#[]⟩ (.slice none 0 0) (.slice none 0 0) [] [], rfl, Rd.leaf (by omega) (by have := hnb.out; omega) (by omega) (by omega), x3.set 1 (.int .u64 n), a4.upd hUs (by have := hx0.out; omega), p3.above hUs (fun i e => by have := hx1.out; omega), (u3.two (hu3.only_two (qb := qb))).trans hUs (fun i e hi => by have := hx0.out; omega)⟩
  rw [qk hk] at hz; by_cases hk : k = 49 ∨ k = 50
  ·rw [qw hk] at hz
   obtain ⟨⟨n, b2⟩, hg2, hz⟩ := aah hz; simp only [jy, jm] at hz; obtain ⟨rfl, rfl, rfl⟩ := hz; have hg2h := qq hg2; have hnb := qq (aks hg2).1; clear hg2; rcases hk with rfl | rfl
   all_goals
    go_wp2_with (go_at_call 169; (with_reducible refine (agy _ qb rb vb (left - 1) b1 8 n 8 b2 p2 rfl (by unfold Wd; omega) hg2h.out hlh.out).mono ?_); rintro e w3 ⟨rfl, p3, hu3⟩; have x3 := x2.upd hu3 (fun e => by have := hx1.out; unfold acu at e; omega); have g1 := x3.at 1 rfl; have y1 := x3.frozen 1; have a4 := a3.upd hu3 (fun e => by have := hqh.out; unfold acu at e; omega)); go_meet; have hUs := Upd.set (S := fun i => i = B) (w := w3) (p := ⟨B, 1, none⟩) rfl (.int .u64 n); exact ⟨.mk _ n ⟨#[]⟩ (.slice none 0 0) (.slice none 0 0) [] [], rfl, Rd.leaf (by omega) (by have := hnb.out; omega) (by omega) (by omega), x3.set 1 (.int .u64 n), a4.upd hUs (by have := hx0.out; omega), p3.above hUs (fun i e => by have := hx1.out; omega), (u3.two (hu3.only_two (qb := qb))).trans hUs (fun i e hi => by have := hx0.out; omega)⟩
  rw [qk hk] at hz; by_cases hk : k = 149
  ·rw [qw hk] at hz
   obtain ⟨⟨s, b2⟩, hg2, hz⟩ := aah hz; simp only [jy, jm] at hz; obtain ⟨rfl, rfl, rfl⟩ := hz; have hg2h := qq hg2; clear hg2; subst hk; go_wp2_with (go_at_call 197; (with_reducible refine (ai4 _ qb rb vb (left - 1) b1 2 4096 2 4096 s b2 p2 rfl rfl (by omega) (by omega) hg2h.out hlh.out).mono ?_); rintro e w3 ⟨rfl, p3, hu3⟩; have x3 := x2.upd hu3 (fun e => by have := hx1.out; unfold acu at e; omega); have g1 := x3.at 2 rfl; have y1 := x3.frozen 2; have a4 := a3.upd hu3 (fun e => by have := hqh.out; unfold acu at e; omega)); go_meet; have hUs := Upd.set (S := fun i => i = B) (w := w3) (p := ⟨B, 2, none⟩) rfl (.string s); exact ⟨.mk 149 0 s (.slice none 0 0) (.slice none 0 0) [] [], rfl, Rd.leaf (by omega) (by omega) (by omega) (by omega), x3.set 2 (.string s), a4.upd hUs (by have := hx0.out; omega), p3.above hUs (fun i e => by have := hx1.out; omega), (u3.two (hu3.only_two (qb := qb))).trans hUs (fun i e hi => by have := hx0.out; omega)⟩
  rw [qk hk] at hz; by_cases hk : k = 160
  ·rw [qw hk] at hz
   obtain ⟨⟨s, b2⟩, hg2, hz⟩ := aah hz; simp only [jy, jm] at hz; obtain ⟨rfl, rfl, rfl⟩ := hz; have hg2h := qq hg2; clear hg2; subst hk; go_wp2_with (go_at_call 197; (with_reducible refine (ai4 _ qb rb vb (left - 1) b1 4 4096 4 4096 s b2 p2 rfl rfl (by omega) (by omega) hg2h.out hlh.out).mono ?_); rintro e w3 ⟨rfl, p3, hu3⟩; have x3 := x2.upd hu3 (fun e => by have := hx1.out; unfold acu at e; omega); have g1 := x3.at 2 rfl; have y1 := x3.frozen 2; have a4 := a3.upd hu3 (fun e => by have := hqh.out; unfold acu at e; omega)); go_meet; have hUs := Upd.set (S := fun i => i = B) (w := w3) (p := ⟨B, 2, none⟩) rfl (.string s); exact ⟨.mk 160 0 s (.slice none 0 0) (.slice none 0 0) [] [], rfl, Rd.leaf (by omega) (by omega) (by omega) (by omega), x3.set 2 (.string s), a4.upd hUs (by have := hx0.out; omega), p3.above hUs (fun i e => by have := hx1.out; omega), (u3.two (hu3.only_two (qb := qb))).trans hUs (fun i e hi => by have := hx0.out; omega)⟩
  rw [qk hk] at hz; by_cases hk : k = 168 ∨ k = 169
  ·rw [qw hk] at hz
   have hz : (rdM (rdP d) (k == 168) (left - 1) b1).bind (fun (z : List ByteArray × List V × Int × List UInt8) => some (V.mk k 0 ByteArray.empty z.1 z.2.1, z.2.2.1, z.2.2.2)) = some (x, l2, r) := (av0 _ _ _ _ _).symm.trans hz; obtain ⟨⟨ks, l, left2, b4⟩, hm, hz⟩ := aah hz; simp only [jy, jm] at hz; obtain ⟨rfl, rfl, rfl⟩ := hz
   have hMk := hMany.out W qb rb vb B (left - 1) dp b1 k ks l left2 b4 p2 hx1.out x2 (by omega) (by omega) (by omega) (by omega) (by omega) hlh.out (by
    rw [← hm]; rcases hk with rfl | rfl <;> rfl)
   have hMkh := qq hMk; clear hMk hm; rcases hk with rfl | rfl
   all_goals
    go_wp2_with (go_at_call 211; refine hMkh.out.mono ?_; rintro e w3 ⟨kv, lv, L, rfl, x3, hK3, hL3, hLm, hRs, p3, hu3⟩; have hLmh := qq hLm; clear hLm; have hRsh := qq hRs; clear hRs); go_meet; refine ⟨.mk _ 0 ⟨#[]⟩ kv lv ks L, by rw [VT.v_eq, ← hLmh.out]; rfl, .mk ((hK3.slc ac7)) (fun _ b hb => by have := hK3.ge hb; have := hWs.out; have := hx0.out; omega) (hL3.slc aak) (fun _ b hb => by have := hL3.ge hb; have := hWs.out; have := hx0.out; omega) (fun y hy => (hRsh.out y hy).weaken (fun i _ hi => by have := hWs.out; have := hx0.out; omega)) (by show (0 : Int) ≤ 0; omega) (by show (0 : Int) < 18446744073709551616; omega) (by simp [VT.k]) (by simp [VT.k]), x3, a3.upd hu3 (fun e => by have := hx0.out; have := hqh.out; unfold aop at e; omega), p3, u3.trans hu3 (fun i e hi => by have := hx0.out; unfold aop at e; unfold Two; omega)⟩
  rw [qk hk] at hz; cases hz
 case rest =>
 obtain ⟨t, htv, hR, X, A, p9, u9⟩ := hcut
 have hRh := qq hR
 obtain ⟨tk, tn, ts, ka, kc, la, lc, tks, tl, rfl, -, -, -, -⟩ := hR.open
 have htvh := qq htv
 clear htv hR e0 e1 f0 x2 a3 p2 u3
 have X : Blk wc B [.int .u8 tk, .int .u64 tn, .string ts, .slice ka tks.length kc, .slice la tl.length lc] := X
 have e0 := p9.q.at 0 rfl
 obtain ⟨f0, f1, f2, f3, f4⟩ := X.a5; obtain ⟨g0, g1, g2, g3, g4⟩ := A.a5; obtain ⟨y0, y1, y2, y3, y4⟩ := A.f5
 go_wp2_with (go_at_call 201; (with_reducible refine (aih _ qb rb vb l2 _ p9).mono ?_); rintro e _ ⟨rfl, rfl⟩)
 have aF := A.fresh5 (.int .u8 tk) (.int .u64 tn) (.string ts) (.slice ka tks.length kc) (.slice la tl.length lc)
 have hF := Upd.at5 wc w.heap.size (.int .u8 tk) (.int .u64 tn) (.string ts) (.slice ka tks.length kc) (.slice la tl.length lc)
 obtain ⟨k0, k1, k2, k3, k4⟩ := aF.a5
 refine bodyPost_ret (by simp [results, Tryz.results200, go_sem, k0, k1, k2, k3, k4]; rfl) rfl ?_
 exact ⟨.mk tk tn ts (.slice ka tks.length kc) (.slice la tl.length lc) tks tl, rfl, htvh.out, (hRh.out.upd hF (fun i hi e => by omega)).weaken (fun i _ hi => Nat.le_of_lt hi), p9.fresh5 hq (.int .u8 tk) (.int .u64 tn) (.string ts) (.slice ka tks.length kc) (.slice la tl.length lc), u9.fresh5 (qj _) (.int .u8 tk) (.int .u64 tn) (.string ts) (.slice ka tks.length kc) (.slice la tl.length lc)⟩
end Go.Proofs.YtgnaifhmcllnlaaGreatDoor
