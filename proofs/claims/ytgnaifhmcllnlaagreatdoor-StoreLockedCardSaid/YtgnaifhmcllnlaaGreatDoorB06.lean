/- The program's reader of values, where it does not fail: 'read', where what 'many' does is given. Conditions: at most 200 values are left. Written by gen_getY.py. (Texts joined.) -/
import Derived.Test.YtgnaifhmcllnlaaGreatDoorB05
set_option maxRecDepth 100000
set_option maxHeartbeats 12800000
set_option linter.unusedSimpArgs false
set_option linter.unusedVariables false
namespace Go.Proofs.YtgnaifhmcllnlaaGreatDoor
open Go.RowKit Tryz
theorem toQ (w : World) (b : Nat) (D : ByteArray) (E : Int) (H : Option Addr) (F G : Nat) (y : ByteArray) (J : Blk w b [.string y]) : Calls prog 138 #[.agg #[.string D, .int .u64 E, .slice H F G], .pointer (some ⟨b, 0, none⟩)] w fun e I => e = .returned (.int .i64 (abf D y)) ∧ Below w.heap.size w I := by
 have K := (qz w.heap.size w).alloc (qj _) (.cells #[.string D, .int .u64 E, .slice H F G] 51)
 have A := Blk.new w [.string D, .int .u64 E, .slice H F G] 51; have B := J.alloc (.cells #[.string D, .int .u64 E, .slice H F G] 51)
 obtain ⟨N, M, O⟩ := A.a3; have U := B.at 0 rfl
 go_enter func138, ntmps138
 go_wp2_with (go_at_call 114; refine (apa _ _ _).mono ?_; rintro e I ⟨rfl, rfl⟩)
 go_ret
 exact ⟨rfl, K⟩
theorem fcQ (w : World) (b K : Nat) (D : ByteArray) (E : Int) (I : Option Addr) (G H : Nat) (y : ByteArray) (U : Blk w b [.string y]) (O : Blk w K [.func (.func 138) #[] #[.pointer (some ⟨b, 0, none⟩)]]) : Calls prog 175 #[.agg #[.string D, .int .u64 E, .slice I G H], .agg #[], .pointer (some ⟨K, 0, none⟩)] w fun e N => e = .returned (.int .i64 (abf D y)) ∧ Below w.heap.size w N := by
 have J := ((qz w.heap.size w).alloc (qj _) (.cells #[.string D, .int .u64 E, .slice I G H] 51)).alloc (by simp) (.cells #[] 183)
 have A := (Blk.new w [.string D, .int .u64 E, .slice I G H] 51).alloc (.cells #[] 183); have B := (U.alloc (.cells #[.string D, .int .u64 E, .slice I G H] 51)).alloc (.cells #[] 183); have F := (O.alloc (.cells #[.string D, .int .u64 E, .slice I G H] 51)).alloc (.cells #[] 183)
 obtain ⟨Y, W, Z⟩ := A.a3; have X := F.at 0 rfl
 go_enter func175, ntmps175
 go_wp2_with (go_at_call 138; (with_reducible refine (toQ _ b D E I G H y B).mono ?_); rintro e h ⟨rfl, M⟩; have J := J.trans (M.mono J.size))
 go_ret
 exact ⟨rfl, J⟩
theorem afi {P : Prop} (h : P := by
 go_wp2
 go_roundw
 case rel => exact ⟨(lo + hi) / 2 + 1, hi, by omega, by omega, by go_num, rfl, hlow, k2, hB3, hZ3⟩
 case measure => simp [intOf]; omega) : P := h
theorem afj {P : Prop} (h : P := by
 go_wp2
 go_roundw
 case rel => exact ⟨lo, (lo + hi) / 2, by omega, by omega, rfl, rfl, k1, hhigh, hB3, hZ3⟩
 case measure => simp [intOf]; omega) : P := h
theorem afk {P : Prop} (h : P := by
 go_wp2
 go_quiet (fail)
 go_wp2
 go_ret2
 exact ⟨by rw [hend.out.1, hfd.out]; rfl, atx hB _⟩) : P := h
theorem aeq {P : Prop} (h : P := by
 go_wp2
 go_ret2
 exact ⟨by rw [hend.out.1, hfd.out]; rfl, hB3⟩) : P := h
theorem bd5 (w : World) (v : Value) (L : List QuT) (b fb : Nat) (y : ByteArray) (hs : Slc aar 3 w v L) (P : Nat → Prop) (hE : ∀ q ∈ L, MsRd P w q.mv q.zw) (hr : RisK abf QuT.name L) (hL : L.length ≤ 1000000) (hb : Blk w b [.string y]) (hf : Blk w fb [.func (.func 138) #[] #[.pointer (some ⟨b, 0, none⟩)]]) :
 Calls prog 174 #[v, .agg #[], .func (.func 175) #[] #[.pointer (some ⟨fb, 0, none⟩)]] w fun e A => e = .returned (.tuple #[.int .i64 (lbK abf QuT.name L y : Nat), .bool (acv abf QuT.name L y)]) ∧ Below w.heap.size w A := by
 obtain ⟨va, au, rfl, hm⟩ := hs.len
 unfold maxLen at hm
 have hr := qq hr
 have hE := qq hE
 have hF := fun (u : World) (h : Below w.heap.size w u) (D : ByteArray) (J : Int) (M : Option Addr) (mn K : Nat) => fcQ u b fb D J M mn K y (hb.pure h) (hf.pure h)
 have hF := qq hF
 have ae := (qz w.heap.size w).alloc (qj _) (.cells #[] 183)
 obtain ⟨W0, ad⟩ := zj (w.alloc (.cells #[] 183))
 have hZ : Blk W0 w.heap.size [] := by rw [ad]; exact Blk.new w [] 183
 rw [← ad] at ae
 clear hb hf
 go_enter func174, ntmps174
 go_wp2
 rw [← ad]
 clear ad
 have aq : (L.length : Int) ≤ 1000000 := by omega
 go_loopw [9, 10] (fun s9 af wr => ∃ lo hi : Nat, lo ≤ hi ∧ hi ≤ L.length ∧ s9 = .int .i64 lo ∧ af = .int .i64 hi ∧ Hid (∀ j, (h : j < L.length) → j < lo → abf (QuT.name L[j]) y < 0) ∧ Hid (∀ j, (h : j < L.length) → hi ≤ j → 0 ≤ abf (QuT.name L[j]) y) ∧ Below w.heap.size w wr ∧ Blk wr w.heap.size []) (fun s9 af _ => (intOf af - intOf s9).toNat)
 case atStart => exact ⟨0, L.length, by omega, by omega, rfl, rfl, qq (fun j h h' => jp h' (by omega)), qq (fun j h h' => jp h' (by omega)), ae, hZ⟩
 case round =>
  obtain ⟨lo, hi, al, am, rfl, rfl, k1, k2, hB⟩ := hrel; obtain ⟨hB, ag⟩ := hB; clear hZ ae; have ai := hs.pure hB; have H := qq ai; clear ai; by_cases ar : lo < hi
  ·have G : (lo + hi) / 2 < L.length := by omega
   have ak : (0 : Int) ≤ ((lo + hi) / 2 : Nat) := by omega
   have aj : (((lo + hi) / 2 : Nat) : Int) < (L.length : Int) := by omega
   have ao : (0 : Int) ≤ ((lo : Int) + (hi : Int)) / 2 := by omega
   have an : ((lo : Int) + (hi : Int)) / 2 < (L.length : Int) := by omega
   have av : (((lo : Int) + (hi : Int)) / 2).toNat = (lo + hi) / 2 := by omega
   have W := H.out; obtain ⟨g, off, rfl⟩ := W.addrB G; have aa := fun x F => (hE.out x F).pure hB
   obtain ⟨D, J, M, K, zw, F, -⟩ := aep W G (aa _ (qy G)); have X := qq F; have ab : QuT.name L[(lo + hi) / 2] = D := by rw [F]
   have Y := fun (u : World) (h : Below w.heap.size w u) => hF.out u h D J M zw.length K
   clear F aa; obtain ⟨cc, Z⟩ := qx (abf (QuT.name L[(lo + hi) / 2]) y); have z : abf D y = cc := by rw [← Z, ab]
   rw [z] at Y; clear z ab; have ac := qq Y; have ah := qq Z; clear Y Z W; by_cases hq : cc < 0
   ·have hlow := qq (amg cmpB_ok hr.out G (by rw [ah.out]; exact hq))
    obtain ⟨N, U, O⟩ := aby H.out G X.out; go_wp2; go_region_held3 (fun A => A.cell? ⟨g, off + (lo + hi) / 2 * 3, none⟩ = some (.string D) ∧ A.cell? ⟨g, off + (lo + hi) / 2 * 3 + 1, none⟩ = some (.int .u64 J) ∧ A.cell? ⟨g, off + (lo + hi) / 2 * 3 + 2, none⟩ = some (.slice M zw.length K)) (first | exact ⟨N, U, O⟩ | exact ⟨d0, d1, d2⟩) ((go_at_call 175; (with_reducible refine (ac.out _ (aad hB)).mono ?_); rintro e w1 ⟨rfl, E⟩; obtain ⟨d0, d1, d2⟩ := aby (H.out.drew.pure E) G X.out; have hB3 := (aad hB).trans (E.mono hB.size); have hZ3 := ag.drew.pure E; clear N U O)); exact afi
   ·have hhigh := qq (aij cmpB_ok hr.out G (by rw [ah.out]; exact hq))
    obtain ⟨N, U, O⟩ := aby H.out G X.out; go_wp2; go_region_held3 (fun A => A.cell? ⟨g, off + (lo + hi) / 2 * 3, none⟩ = some (.string D) ∧ A.cell? ⟨g, off + (lo + hi) / 2 * 3 + 1, none⟩ = some (.int .u64 J) ∧ A.cell? ⟨g, off + (lo + hi) / 2 * 3 + 2, none⟩ = some (.slice M zw.length K)) (first | exact ⟨N, U, O⟩ | exact ⟨d0, d1, d2⟩) ((go_at_call 175; (with_reducible refine (ac.out _ (aad hB)).mono ?_); rintro e w1 ⟨rfl, E⟩; obtain ⟨d0, d1, d2⟩ := aby (H.out.drew.pure E) G X.out; have hB3 := (aad hB).trans (E.mono hB.size); have hZ3 := ag.drew.pure E; clear N U O)); exact afj
  ·obtain rfl : lo = hi := by omega
   have hend := qq (amh cmpB_ok hr.out am k1.out k2.out); clear k1 k2 al; by_cases I : lo < L.length
   ·have ak : (0 : Int) ≤ (lo : Int) := by omega
    have aj : (lo : Int) < (L.length : Int) := by omega
    have W := H.out; obtain ⟨g, off, rfl⟩ := W.addrB I; have aa := fun x F => (hE.out x F).pure hB
    obtain ⟨D, J, M, K, zw, F, -⟩ := aep W I (aa _ (qy I)); have X := qq F; have ab : QuT.name L[lo] = D := by rw [F]
    have Y := fun (u : World) (h : Below w.heap.size w u) => hF.out u h D J M zw.length K
    clear F aa; obtain ⟨cc, Z⟩ := qx (abf (QuT.name L[lo]) y)
    have hfd := qq (show acv abf QuT.name L y = (cc == 0) by
     rw [hend.out.2, ← Z, Bool.eq_iff_iff, qm, beq_iff_eq]
     exact ⟨fun h => h.2, fun h => ⟨I, h⟩⟩)
    have z : abf D y = cc := by rw [← Z, ab]
    rw [z] at Y; clear z ab; have ac := qq Y; clear Y Z W; obtain ⟨N, U, O⟩ := aby H.out I X.out; go_wp2; go_region_held3 (fun A => A.cell? ⟨g, off + lo * 3, none⟩ = some (.string D) ∧ A.cell? ⟨g, off + lo * 3 + 1, none⟩ = some (.int .u64 J) ∧ A.cell? ⟨g, off + lo * 3 + 2, none⟩ = some (.slice M zw.length K)) (first | exact ⟨N, U, O⟩ | exact ⟨d0, d1, d2⟩) ((go_at_call 175; (with_reducible refine (ac.out _ (aad hB)).mono ?_); rintro e w1 ⟨rfl, E⟩; obtain ⟨d0, d1, d2⟩ := aby (H.out.drew.pure E) I X.out; have hB3 := (aad hB).trans (E.mono hB.size); have hZ3 := ag.drew.pure E; clear N U O)); exact aeq
   ·have hd1 : decide ((lo : Int) < (L.length : Int)) = false := qg (by omega)
    have hd2 : decide (lo < L.length) = false := qg I; have hfd := qq (show acv abf QuT.name L y = false by rw [hend.out.2]; exact qg (fun h => I h.1)); exact afk
theorem bdc (w : World) (v : Value) (L : List QuT) (b : Nat) (y : ByteArray) (hs : Slc aar 3 w v L) (P : Nat → Prop) (M : ∀ q ∈ L, MsRd P w q.mv q.zw) (D : RisK abf QuT.name L) (K : L.length ≤ 1000000) (N : Blk w b [.string y]) :
 Calls prog 137 #[v, .func (.func 138) #[] #[.pointer (some ⟨b, 0, none⟩)]] w fun e G => e = .returned (.tuple #[.int .i64 (lbK abf QuT.name L y : Nat), .bool (acv abf QuT.name L y)]) ∧ Below w.heap.size w G := by
 have A := (qz w.heap.size w).alloc (qj _) (.cells #[.func (.func 138) #[] #[.pointer (some ⟨b, 0, none⟩)]] 164)
 have H := Blk.new w [.func (.func 138) #[] #[.pointer (some ⟨b, 0, none⟩)]] 164
 have E := qq (bd5 _ v L b w.heap.size y (hs.pure A) P (fun x I => (M x I).pure A) D K (N.pure A) H)
 obtain ⟨O, W, X, rfl⟩ := hs.shape3
 clear D
 go_enter func137, ntmps137
 go_wp2_with (go_at_call 174; (with_reducible refine E.out.mono ?_); rintro e U ⟨rfl, F⟩; have J := A.trans (F.mono A.size))
 go_ret2
 exact ⟨rfl, J⟩
theorem alk {P : Prop} (h : P := by
 go_wp2_with (go_at_call 51; refine (ajo _ (xf, xg, xb) (yf, yg, yb)).mono ?_; rintro e w1 ⟨rfl, hB1⟩; have hB := hB.trans (hB1.mono hB.size))
 go_ret
 exact ⟨rfl, hB⟩) : P := h
theorem toB (w : World) (b : Nat) (xf : Int) (xg xb : ByteArray) (H : Option Addr) (G F : Nat) (E : Option Addr) (D I : Nat) (yf : Int) (yg yb : ByteArray) (K : Blk w b [.int .u32 yf, .string yg, .string yb]) : Calls prog 120 #[.agg #[.int .u32 xf, .string xg, .string xb, .slice H G F, .slice E D I], .pointer (some ⟨b, 0, none⟩)] w fun e J => e = .returned (.int .i64 (aav (xf, xg, xb) (yf, yg, yb))) ∧ Below w.heap.size w J := by
 have hB := (qz w.heap.size w).alloc (qj _) (.cells #[.int .u32 xf, .string xg, .string xb, .slice H G F, .slice E D I] 62)
 have A := Blk.new w [.int .u32 xf, .string xg, .string xb, .slice H G F, .slice E D I] 62; have B := K.alloc (.cells #[.int .u32 xf, .string xg, .string xb, .slice H G F, .slice E D I] 62)
 obtain ⟨O, M, U⟩ := A.a3; obtain ⟨X, N, W⟩ := B.a3
 go_enter func120, ntmps120
 exact alk
theorem fcB (w : World) (b X : Nat) (E : Int) (D F : ByteArray) (J : Option Addr) (I H : Nat) (G : Option Addr) (M K : Nat) (W : Int) (U O : ByteArray) (z : Blk w b [.int .u32 W, .string U, .string O]) (h : Blk w X [.func (.func 120) #[] #[.pointer (some ⟨b, 0, none⟩)]]) : Calls prog 156 #[.agg #[.int .u32 E, .string D, .string F, .slice J I H, .slice G M K], .agg #[], .pointer (some ⟨X, 0, none⟩)] w fun e Z => e = .returned (.int .i64 (aav (E, D, F) (W, U, O))) ∧ Below w.heap.size w Z := by
 have N := ((qz w.heap.size w).alloc (qj _) (.cells #[.int .u32 E, .string D, .string F, .slice J I H, .slice G M K] 62)).alloc (by simp) (.cells #[] 183)
 have A := (Blk.new w [.int .u32 E, .string D, .string F, .slice J I H, .slice G M K] 62).alloc (.cells #[] 183); have B := (z.alloc (.cells #[.int .u32 E, .string D, .string F, .slice J I H, .slice G M K] 62)).alloc (.cells #[] 183); have aa := (h.alloc (.cells #[.int .u32 E, .string D, .string F, .slice J I H, .slice G M K] 62)).alloc (.cells #[] 183)
 obtain ⟨c0, c1, c2, c3, c4⟩ := A.a5; have f0 := aa.at 0 rfl
 go_enter func156, ntmps156
 go_wp2_with (go_at_call 120; (with_reducible refine (toB _ b E D F J I H G M K W U O B).mono ?_); rintro e w1 ⟨rfl, Y⟩; have N := N.trans (Y.mono N.size))
 go_ret
 exact ⟨rfl, N⟩
theorem bd6 (w : World) (v : Value) (L : List BrT) (b fb : Nat) (yf : Int) (yg yb : ByteArray) (hs : Slc aa7 5 w v L) (P : Nat → Prop) (hE : ∀ b ∈ L, EnRd P w b.en) (hr : RisK aav BrT.x L) (hL : L.length ≤ 1000000) (hb : Blk w b [.int .u32 yf, .string yg, .string yb]) (hf : Blk w fb [.func (.func 120) #[] #[.pointer (some ⟨b, 0, none⟩)]]) :
 Calls prog 155 #[v, .agg #[], .func (.func 156) #[] #[.pointer (some ⟨fb, 0, none⟩)]] w fun e A => e = .returned (.tuple #[.int .i64 (lbK aav BrT.x L (yf, yg, yb) : Nat), .bool (acv aav BrT.x L (yf, yg, yb))]) ∧ Below w.heap.size w A := by
 obtain ⟨va, az, rfl, hm⟩ := hs.len
 unfold maxLen at hm
 have hr := qq hr
 have hE := qq hE
 have hF := fun (u : World) (h : Below w.heap.size w u) (E : Int) (D F : ByteArray) (Z : Option Addr) (pn X : Nat) (W : Option Addr) (tn z : Nat) => fcB u b fb E D F Z pn X W tn z yf yg yb (hb.pure h) (hf.pure h)
 have hF := qq hF
 have ai := (qz w.heap.size w).alloc (qj _) (.cells #[] 183)
 obtain ⟨W0, ah⟩ := zj (w.alloc (.cells #[] 183))
 have hZ : Blk W0 w.heap.size [] := by rw [ah]; exact Blk.new w [] 183
 rw [← ah] at ai
 clear hb hf
 obtain ⟨y, hy⟩ : ∃ y : Xn, (yf, yg, yb) = y := ⟨_, rfl⟩
 rw [hy]
 have an := qq hy
 clear hy
 go_enter func155, ntmps155
 go_wp2
 rw [← ah]
 clear ah
 have ax : (L.length : Int) ≤ 1000000 := by omega
 go_loopw [9, 10] (fun s9 aj wr => ∃ lo hi : Nat, lo ≤ hi ∧ hi ≤ L.length ∧ s9 = .int .i64 lo ∧ aj = .int .i64 hi ∧ Hid (∀ j, (h : j < L.length) → j < lo → aav (BrT.x L[j]) y < 0) ∧ Hid (∀ j, (h : j < L.length) → hi ≤ j → 0 ≤ aav (BrT.x L[j]) y) ∧ Below w.heap.size w wr ∧ Blk wr w.heap.size []) (fun s9 aj _ => (intOf aj - intOf s9).toNat)
 case atStart => exact ⟨0, L.length, by omega, by omega, rfl, rfl, qq (fun j h h' => jp h' (by omega)), qq (fun j h h' => jp h' (by omega)), ai, hZ⟩
 case round =>
  obtain ⟨lo, hi, ar, au, rfl, rfl, k1, k2, hB⟩ := hrel; obtain ⟨hB, ak⟩ := hB; clear hZ ai; have am := hs.pure hB; have K := qq am; clear am; by_cases ay : lo < hi
  ·have I : (lo + hi) / 2 < L.length := by omega
   have aq : (0 : Int) ≤ ((lo + hi) / 2 : Nat) := by omega
   have ao : (((lo + hi) / 2 : Nat) : Int) < (L.length : Int) := by omega
   have aw : (0 : Int) ≤ ((lo : Int) + (hi : Int)) / 2 := by omega
   have av : ((lo : Int) + (hi : Int)) / 2 < (L.length : Int) := by omega
   have a0 : (((lo : Int) + (hi : Int)) / 2).toNat = (lo + hi) / 2 := by omega
   have aa := K.out; obtain ⟨g, off, rfl⟩ := aa.addrB I; have ae := fun x H => (hE.out x H).pure hB
   obtain ⟨E, D, F, Z, X, W, z, zu, zy, H, -⟩ := adq aa I (ae _ (qy I)); have ab := qq H; have af : BrT.x L[(lo + hi) / 2] = (E, D, F) := by rw [H]
   have J := fun (u : World) (h : Below w.heap.size w u) => hF.out u h E D F Z zu.length X W zy.length z
   rw [an.out] at J; clear H ae; obtain ⟨cc, ac⟩ := qx (aav (BrT.x L[(lo + hi) / 2]) y); have ad : aav (E, D, F) y = cc := by rw [← ac, af]
   rw [ad] at J; clear ad af; have ag := qq J; have al := qq ac; clear J ac aa; by_cases hq : cc < 0
   ·have hlow := qq (amg cmpX_ok hr.out I (by rw [al.out]; exact hq))
    obtain ⟨O, c1, U, Y, N⟩ := ach K.out I ab.out; go_wp2; go_region_held3 (fun A => A.cell? ⟨g, off + (lo + hi) / 2 * 5, none⟩ = some (.int .u32 E) ∧ A.cell? ⟨g, off + (lo + hi) / 2 * 5 + 1, none⟩ = some (.string D) ∧ A.cell? ⟨g, off + (lo + hi) / 2 * 5 + 2, none⟩ = some (.string F) ∧ A.cell? ⟨g, off + (lo + hi) / 2 * 5 + 3, none⟩ = some (.slice Z zu.length X) ∧ A.cell? ⟨g, off + (lo + hi) / 2 * 5 + 4, none⟩ = some (.slice W zy.length z)) (first | exact ⟨O, c1, U, Y, N⟩ | exact ⟨d0, d1, d2, d3, d4⟩) ((go_at_call 156; (with_reducible refine (ag.out _ (aad hB)).mono ?_); rintro e w1 ⟨rfl, G⟩; obtain ⟨d0, d1, d2, d3, d4⟩ := ach (K.out.drew.pure G) I ab.out; have hB3 := (aad hB).trans (G.mono hB.size); have hZ3 := ak.drew.pure G; clear O c1 U Y N)); exact afi
   ·have hhigh := qq (aij cmpX_ok hr.out I (by rw [al.out]; exact hq))
    obtain ⟨O, c1, U, Y, N⟩ := ach K.out I ab.out; go_wp2; go_region_held3 (fun A => A.cell? ⟨g, off + (lo + hi) / 2 * 5, none⟩ = some (.int .u32 E) ∧ A.cell? ⟨g, off + (lo + hi) / 2 * 5 + 1, none⟩ = some (.string D) ∧ A.cell? ⟨g, off + (lo + hi) / 2 * 5 + 2, none⟩ = some (.string F) ∧ A.cell? ⟨g, off + (lo + hi) / 2 * 5 + 3, none⟩ = some (.slice Z zu.length X) ∧ A.cell? ⟨g, off + (lo + hi) / 2 * 5 + 4, none⟩ = some (.slice W zy.length z)) (first | exact ⟨O, c1, U, Y, N⟩ | exact ⟨d0, d1, d2, d3, d4⟩) ((go_at_call 156; (with_reducible refine (ag.out _ (aad hB)).mono ?_); rintro e w1 ⟨rfl, G⟩; obtain ⟨d0, d1, d2, d3, d4⟩ := ach (K.out.drew.pure G) I ab.out; have hB3 := (aad hB).trans (G.mono hB.size); have hZ3 := ak.drew.pure G; clear O c1 U Y N)); exact afj
  ·obtain rfl : lo = hi := by omega
   have hend := qq (amh cmpX_ok hr.out au k1.out k2.out); clear k1 k2 ar; by_cases M : lo < L.length
   ·have aq : (0 : Int) ≤ (lo : Int) := by omega
    have ao : (lo : Int) < (L.length : Int) := by omega
    have aa := K.out; obtain ⟨g, off, rfl⟩ := aa.addrB M; have ae := fun x H => (hE.out x H).pure hB
    obtain ⟨E, D, F, Z, X, W, z, zu, zy, H, -⟩ := adq aa M (ae _ (qy M)); have ab := qq H; have af : BrT.x L[lo] = (E, D, F) := by rw [H]
    have J := fun (u : World) (h : Below w.heap.size w u) => hF.out u h E D F Z zu.length X W zy.length z
    rw [an.out] at J; clear H ae; obtain ⟨cc, ac⟩ := qx (aav (BrT.x L[lo]) y)
    have hfd := qq (show acv aav BrT.x L y = (cc == 0) by
     rw [hend.out.2, ← ac, Bool.eq_iff_iff, qm, beq_iff_eq]
     exact ⟨fun h => h.2, fun h => ⟨M, h⟩⟩)
    have ad : aav (E, D, F) y = cc := by rw [← ac, af]
    rw [ad] at J; clear ad af; have ag := qq J; clear J ac aa; obtain ⟨O, c1, U, Y, N⟩ := ach K.out M ab.out; go_wp2; go_region_held3 (fun A => A.cell? ⟨g, off + lo * 5, none⟩ = some (.int .u32 E) ∧ A.cell? ⟨g, off + lo * 5 + 1, none⟩ = some (.string D) ∧ A.cell? ⟨g, off + lo * 5 + 2, none⟩ = some (.string F) ∧ A.cell? ⟨g, off + lo * 5 + 3, none⟩ = some (.slice Z zu.length X) ∧ A.cell? ⟨g, off + lo * 5 + 4, none⟩ = some (.slice W zy.length z)) (first | exact ⟨O, c1, U, Y, N⟩ | exact ⟨d0, d1, d2, d3, d4⟩) ((go_at_call 156; (with_reducible refine (ag.out _ (aad hB)).mono ?_); rintro e w1 ⟨rfl, G⟩; obtain ⟨d0, d1, d2, d3, d4⟩ := ach (K.out.drew.pure G) M ab.out; have hB3 := (aad hB).trans (G.mono hB.size); have hZ3 := ak.drew.pure G; clear O c1 U Y N)); exact aeq
   ·have hd1 : decide ((lo : Int) < (L.length : Int)) = false := qg (by omega)
    have hd2 : decide (lo < L.length) = false := qg M; have hfd := qq (show acv aav BrT.x L y = false by rw [hend.out.2]; exact qg (fun h => M h.1)); exact afk
theorem bdd (w : World) (v : Value) (L : List BrT) (b : Nat) (F : Int) (D E : ByteArray) (hs : Slc aa7 5 w v L) (P : Nat → Prop) (U : ∀ b ∈ L, EnRd P w b.en) (G : RisK aav BrT.x L) (O : L.length ≤ 1000000) (W : Blk w b [.int .u32 F, .string D, .string E]) :
 Calls prog 119 #[v, .func (.func 120) #[] #[.pointer (some ⟨b, 0, none⟩)]] w fun e J => e = .returned (.tuple #[.int .i64 (lbK aav BrT.x L (F, D, E) : Nat), .bool (acv aav BrT.x L (F, D, E))]) ∧ Below w.heap.size w J := by
 have A := (qz w.heap.size w).alloc (qj _) (.cells #[.func (.func 120) #[] #[.pointer (some ⟨b, 0, none⟩)]] 151)
 have K := Blk.new w [.func (.func 120) #[] #[.pointer (some ⟨b, 0, none⟩)]] 151
 have H := qq (bd6 _ v L b w.heap.size F D E (hs.pure A) P (fun x M => (U x M).pure A) G O (W.pure A) K)
 obtain ⟨X, Z, h, rfl⟩ := hs.shape3
 clear G
 go_enter func119, ntmps119
 go_wp2_with (go_at_call 155; (with_reducible refine H.out.mono ?_); rintro e Y ⟨rfl, I⟩; have N := A.trans (I.mono A.size))
 go_ret2
 exact ⟨rfl, N⟩
theorem toH (w : World) (b : Nat) (xf : Int) (xg xb : ByteArray) (D : Bool) (yf : Int) (yg yb : ByteArray) (F : Blk w b [.int .u32 yf, .string yg, .string yb]) : Calls prog 145 #[.agg #[.int .u32 xf, .string xg, .string xb, .bool D], .pointer (some ⟨b, 0, none⟩)] w fun e E => e = .returned (.int .i64 (aav (xf, xg, xb) (yf, yg, yb))) ∧ Below w.heap.size w E := by
 have hB := (qz w.heap.size w).alloc (qj _) (.cells #[.int .u32 xf, .string xg, .string xb, .bool D] 90)
 have A := Blk.new w [.int .u32 xf, .string xg, .string xb, .bool D] 90; have B := F.alloc (.cells #[.int .u32 xf, .string xg, .string xb, .bool D] 90)
 obtain ⟨I, G, J⟩ := A.a3; obtain ⟨M, H, K⟩ := B.a3
 go_enter func145, ntmps145
 exact alk
theorem fcH (w : World) (b N : Nat) (E : Int) (D G : ByteArray) (H : Bool) (M : Int) (J K : ByteArray) (X : Blk w b [.int .u32 M, .string J, .string K]) (W : Blk w N [.func (.func 145) #[] #[.pointer (some ⟨b, 0, none⟩)]]) : Calls prog 178 #[.agg #[.int .u32 E, .string D, .string G, .bool H], .agg #[], .pointer (some ⟨N, 0, none⟩)] w fun e U => e = .returned (.int .i64 (aav (E, D, G) (M, J, K))) ∧ Below w.heap.size w U := by
 have I := ((qz w.heap.size w).alloc (qj _) (.cells #[.int .u32 E, .string D, .string G, .bool H] 90)).alloc (by simp) (.cells #[] 183)
 have A := (Blk.new w [.int .u32 E, .string D, .string G, .bool H] 90).alloc (.cells #[] 183); have B := (X.alloc (.cells #[.int .u32 E, .string D, .string G, .bool H] 90)).alloc (.cells #[] 183); have F := (W.alloc (.cells #[.int .u32 E, .string D, .string G, .bool H] 90)).alloc (.cells #[] 183)
 obtain ⟨h, Y, z, c3⟩ := A.a4; have Z := F.at 0 rfl
 go_enter func178, ntmps178
 go_wp2_with (go_at_call 145; (with_reducible refine (toH _ b E D G H M J K B).mono ?_); rintro e w1 ⟨rfl, O⟩; have I := I.trans (O.mono I.size))
 go_ret
 exact ⟨rfl, I⟩
theorem bd7 (w : World) (v : Value) (L : List He) (b fb : Nat) (yf : Int) (yg yb : ByteArray) (hs : Slc adp 4 w v L) (hr : RisK aav He.x L) (hL : L.length ≤ 1000000) (hb : Blk w b [.int .u32 yf, .string yg, .string yb]) (hf : Blk w fb [.func (.func 145) #[] #[.pointer (some ⟨b, 0, none⟩)]]) :
 Calls prog 177 #[v, .agg #[], .func (.func 178) #[] #[.pointer (some ⟨fb, 0, none⟩)]] w fun e A => e = .returned (.tuple #[.int .i64 (lbK aav He.x L (yf, yg, yb) : Nat), .bool (acv aav He.x L (yf, yg, yb))]) ∧ Below w.heap.size w A := by
 obtain ⟨va, av, rfl, hm⟩ := hs.len
 unfold maxLen at hm
 have hr := qq hr
 have hF := fun (u : World) (h : Below w.heap.size w u) (E : Int) (D F : ByteArray) (O : Bool) => fcH u b fb E D F O yf yg yb (hb.pure h) (hf.pure h)
 have hF := qq hF
 have ae := (qz w.heap.size w).alloc (qj _) (.cells #[] 183)
 obtain ⟨W0, ad⟩ := zj (w.alloc (.cells #[] 183))
 have hZ : Blk W0 w.heap.size [] := by rw [ad]; exact Blk.new w [] 183
 rw [← ad] at ae
 clear hb hf
 obtain ⟨y, hy⟩ : ∃ y : Xn, (yf, yg, yb) = y := ⟨_, rfl⟩
 rw [hy]
 have aj := qq hy
 clear hy
 go_enter func177, ntmps177
 go_wp2
 rw [← ad]
 clear ad
 have ar : (L.length : Int) ≤ 1000000 := by omega
 go_loopw [9, 10] (fun s9 af wr => ∃ lo hi : Nat, lo ≤ hi ∧ hi ≤ L.length ∧ s9 = .int .i64 lo ∧ af = .int .i64 hi ∧ Hid (∀ j, (h : j < L.length) → j < lo → aav (He.x L[j]) y < 0) ∧ Hid (∀ j, (h : j < L.length) → hi ≤ j → 0 ≤ aav (He.x L[j]) y) ∧ Below w.heap.size w wr ∧ Blk wr w.heap.size []) (fun s9 af _ => (intOf af - intOf s9).toNat)
 case atStart => exact ⟨0, L.length, by omega, by omega, rfl, rfl, qq (fun j h h' => jp h' (by omega)), qq (fun j h h' => jp h' (by omega)), ae, hZ⟩
 case round =>
  obtain ⟨lo, hi, am, an, rfl, rfl, k1, k2, hB⟩ := hrel; obtain ⟨hB, ag⟩ := hB; clear hZ ae; have ai := hs.pure hB; have I := qq ai; clear ai; by_cases au : lo < hi
  ·have J : (lo + hi) / 2 < L.length := by omega
   have al : (0 : Int) ≤ ((lo + hi) / 2 : Nat) := by omega
   have ak : (((lo + hi) / 2 : Nat) : Int) < (L.length : Int) := by omega
   have aq : (0 : Int) ≤ ((lo : Int) + (hi : Int)) / 2 := by omega
   have ao : ((lo : Int) + (hi : Int)) / 2 < (L.length : Int) := by omega
   have aw : (((lo : Int) + (hi : Int)) / 2).toNat = (lo + hi) / 2 := by omega
   have W := I.out; obtain ⟨g, off, rfl⟩ := W.addrB J; obtain ⟨E, D, F, O, z, -⟩ := agb W J; have Y := qq z; have ab : He.x L[(lo + hi) / 2] = (E, D, F) := by rw [z]
   have H := fun (u : World) (h : Below w.heap.size w u) => hF.out u h E D F O
   rw [aj.out] at H; clear z; obtain ⟨cc, Z⟩ := qx (aav (He.x L[(lo + hi) / 2]) y); have aa : aav (E, D, F) y = cc := by rw [← Z, ab]
   rw [aa] at H; clear aa ab; have ac := qq H; have ah := qq Z; clear H Z W; by_cases hq : cc < 0
   ·have hlow := qq (amg cmpX_ok hr.out J (by rw [ah.out]; exact hq))
    obtain ⟨K, U, M, N⟩ := aco I.out J Y.out; go_wp2; go_region_held3 (fun A => A.cell? ⟨g, off + (lo + hi) / 2 * 4, none⟩ = some (.int .u32 E) ∧ A.cell? ⟨g, off + (lo + hi) / 2 * 4 + 1, none⟩ = some (.string D) ∧ A.cell? ⟨g, off + (lo + hi) / 2 * 4 + 2, none⟩ = some (.string F) ∧ A.cell? ⟨g, off + (lo + hi) / 2 * 4 + 3, none⟩ = some (.bool O)) (first | exact ⟨K, U, M, N⟩ | exact ⟨d0, d1, d2, d3⟩) ((go_at_call 178; (with_reducible refine (ac.out _ (aad hB)).mono ?_); rintro e w1 ⟨rfl, G⟩; obtain ⟨d0, d1, d2, d3⟩ := aco (I.out.drew.pure G) J Y.out; have hB3 := (aad hB).trans (G.mono hB.size); have hZ3 := ag.drew.pure G; clear K U M N)); exact afi
   ·have hhigh := qq (aij cmpX_ok hr.out J (by rw [ah.out]; exact hq))
    obtain ⟨K, U, M, N⟩ := aco I.out J Y.out; go_wp2; go_region_held3 (fun A => A.cell? ⟨g, off + (lo + hi) / 2 * 4, none⟩ = some (.int .u32 E) ∧ A.cell? ⟨g, off + (lo + hi) / 2 * 4 + 1, none⟩ = some (.string D) ∧ A.cell? ⟨g, off + (lo + hi) / 2 * 4 + 2, none⟩ = some (.string F) ∧ A.cell? ⟨g, off + (lo + hi) / 2 * 4 + 3, none⟩ = some (.bool O)) (first | exact ⟨K, U, M, N⟩ | exact ⟨d0, d1, d2, d3⟩) ((go_at_call 178; (with_reducible refine (ac.out _ (aad hB)).mono ?_); rintro e w1 ⟨rfl, G⟩; obtain ⟨d0, d1, d2, d3⟩ := aco (I.out.drew.pure G) J Y.out; have hB3 := (aad hB).trans (G.mono hB.size); have hZ3 := ag.drew.pure G; clear K U M N)); exact afj
  ·obtain rfl : lo = hi := by omega
   have hend := qq (amh cmpX_ok hr.out an k1.out k2.out); clear k1 k2 am; by_cases X : lo < L.length
   ·have al : (0 : Int) ≤ (lo : Int) := by omega
    have ak : (lo : Int) < (L.length : Int) := by omega
    have W := I.out; obtain ⟨g, off, rfl⟩ := W.addrB X; obtain ⟨E, D, F, O, z, -⟩ := agb W X; have Y := qq z; have ab : He.x L[lo] = (E, D, F) := by rw [z]
    have H := fun (u : World) (h : Below w.heap.size w u) => hF.out u h E D F O
    rw [aj.out] at H; clear z; obtain ⟨cc, Z⟩ := qx (aav (He.x L[lo]) y)
    have hfd := qq (show acv aav He.x L y = (cc == 0) by
     rw [hend.out.2, ← Z, Bool.eq_iff_iff, qm, beq_iff_eq]
     exact ⟨fun h => h.2, fun h => ⟨X, h⟩⟩)
    have aa : aav (E, D, F) y = cc := by rw [← Z, ab]
    rw [aa] at H; clear aa ab; have ac := qq H; clear H Z W; obtain ⟨K, U, M, N⟩ := aco I.out X Y.out; go_wp2; go_region_held3 (fun A => A.cell? ⟨g, off + lo * 4, none⟩ = some (.int .u32 E) ∧ A.cell? ⟨g, off + lo * 4 + 1, none⟩ = some (.string D) ∧ A.cell? ⟨g, off + lo * 4 + 2, none⟩ = some (.string F) ∧ A.cell? ⟨g, off + lo * 4 + 3, none⟩ = some (.bool O)) (first | exact ⟨K, U, M, N⟩ | exact ⟨d0, d1, d2, d3⟩) ((go_at_call 178; (with_reducible refine (ac.out _ (aad hB)).mono ?_); rintro e w1 ⟨rfl, G⟩; obtain ⟨d0, d1, d2, d3⟩ := aco (I.out.drew.pure G) X Y.out; have hB3 := (aad hB).trans (G.mono hB.size); have hZ3 := ag.drew.pure G; clear K U M N)); exact aeq
   ·have hd1 : decide ((lo : Int) < (L.length : Int)) = false := qg (by omega)
    have hd2 : decide (lo < L.length) = false := qg X; have hfd := qq (show acv aav He.x L y = false by rw [hend.out.2]; exact qg (fun h => X h.1)); exact afk
theorem bde (w : World) (v : Value) (L : List He) (b : Nat) (F : Int) (D E : ByteArray) (hs : Slc adp 4 w v L) (G : RisK aav He.x L) (N : L.length ≤ 1000000) (O : Blk w b [.int .u32 F, .string D, .string E]) :
 Calls prog 144 #[v, .func (.func 145) #[] #[.pointer (some ⟨b, 0, none⟩)]] w fun e J => e = .returned (.tuple #[.int .i64 (lbK aav He.x L (F, D, E) : Nat), .bool (acv aav He.x L (F, D, E))]) ∧ Below w.heap.size w J := by
 have A := (qz w.heap.size w).alloc (qj _) (.cells #[.func (.func 145) #[] #[.pointer (some ⟨b, 0, none⟩)]] 171)
 have K := Blk.new w [.func (.func 145) #[] #[.pointer (some ⟨b, 0, none⟩)]] 171
 have H := qq (bd7 _ v L b w.heap.size F D E (hs.pure A) G N (O.pure A) K)
 obtain ⟨U, X, Y, rfl⟩ := hs.shape3
 clear G
 go_enter func144, ntmps144
 go_wp2_with (go_at_call 177; (with_reducible refine H.out.mono ?_); rintro e W ⟨rfl, I⟩; have M := A.trans (I.mono A.size))
 go_ret2
 exact ⟨rfl, M⟩
theorem ahl {P : Prop} (h : P := by
 go_enter func150, ntmps150
 go_wp2
 go_ret
 exact ⟨rfl, hB⟩) : P := h
theorem toM (w : World) (b : Nat) (id : Int) (key : ByteArray) (K red : Bool) (mid : ByteArray) (N M : Int) (us : ByteArray) (I : Option Addr) (D H : Nat) (J : Option Addr) (F G : Nat) (E : ByteArray) (X : ByteArray) (y : Int) (Y : Blk w b [.string X, .int .u64 y]) : Calls prog 150 #[.agg #[.int .u64 id, .string key, .bool K, .bool red, .string mid, .int .u8 N, .int .u64 M, .string us, .slice I D H, .slice J F G, .string E], .pointer (some ⟨b, 0, none⟩)] w fun e W => e = .returned (.int .i64 (ad8 id y)) ∧ Below w.heap.size w W := by
 have hB := (qz w.heap.size w).alloc (qj _) (.cells #[.int .u64 id, .string key, .bool K, .bool red, .string mid, .int .u8 N, .int .u64 M, .string us, .slice I D H, .slice J F G, .string E] 60)
 have A := Blk.new w [.int .u64 id, .string key, .bool K, .bool red, .string mid, .int .u8 N, .int .u64 M, .string us, .slice I D H, .slice J F G, .string E] 60; have B := Y.alloc (.cells #[.int .u64 id, .string key, .bool K, .bool red, .string mid, .int .u8 N, .int .u64 M, .string us, .slice I D H, .slice J F G, .string E] 60)
 obtain ⟨c0, z, c2⟩ := A.a3; obtain ⟨d0, Z⟩ := B.a2
 unfold ad8
 by_cases U : id < y
 ·rw [qw U]
  exact ahl
 ·rw [qk U]
  by_cases O : y < id
  ·rw [qw O]
   exact ahl
  ·rw [qk O]
   exact ahl
theorem fcM (w : World) (b W : Nat) (id : Int) (key : ByteArray) (M red : Bool) (mid : ByteArray) (O N : Int) (us : ByteArray) (J : Option Addr) (D I : Nat) (K : Option Addr) (G H : Nat) (E : ByteArray) (X : ByteArray) (y : Int) (z : Blk w b [.string X, .int .u64 y]) (h : Blk w W [.func (.func 150) #[] #[.pointer (some ⟨b, 0, none⟩)]]) : Calls prog 181 #[.agg #[.int .u64 id, .string key, .bool M, .bool red, .string mid, .int .u8 O, .int .u64 N, .string us, .slice J D I, .slice K G H, .string E], .agg #[], .pointer (some ⟨W, 0, none⟩)] w fun e Z => e = .returned (.int .i64 (ad8 id y)) ∧ Below w.heap.size w Z := by
 have U := ((qz w.heap.size w).alloc (qj _) (.cells #[.int .u64 id, .string key, .bool M, .bool red, .string mid, .int .u8 O, .int .u64 N, .string us, .slice J D I, .slice K G H, .string E] 60)).alloc (by simp) (.cells #[] 183)
 have A := (Blk.new w [.int .u64 id, .string key, .bool M, .bool red, .string mid, .int .u8 O, .int .u64 N, .string us, .slice J D I, .slice K G H, .string E] 60).alloc (.cells #[] 183); have B := (z.alloc (.cells #[.int .u64 id, .string key, .bool M, .bool red, .string mid, .int .u8 O, .int .u64 N, .string us, .slice J D I, .slice K G H, .string E] 60)).alloc (.cells #[] 183); have F := (h.alloc (.cells #[.int .u64 id, .string key, .bool M, .bool red, .string mid, .int .u8 O, .int .u64 N, .string us, .slice J D I, .slice K G H, .string E] 60)).alloc (.cells #[] 183)
 obtain ⟨c0, c1, c2, c3, c4, c5, c6, c7, c8, c9, aa⟩ := A.a11; have f0 := F.at 0 rfl
 go_enter func181, ntmps181
 go_wp2_with (go_at_call 150; (with_reducible refine (toM _ b id key M red mid O N us J D I K G H E X y B).mono ?_); rintro e w1 ⟨rfl, Y⟩; have U := U.trans (Y.mono U.size))
 go_ret
 exact ⟨rfl, U⟩
theorem bd8 (w : World) (v : Value) (L : List MsT) (b fb : Nat) (yq : ByteArray) (y : Int) (hs : Slc abl 11 w v L) (P : Nat → Prop) (hE : ∀ m ∈ L, Rd P w m.pr.app) (hr : RisK ad8 MsT.id L) (hL : L.length ≤ 1000000) (hb : Blk w b [.string yq, .int .u64 y]) (hf : Blk w fb [.func (.func 150) #[] #[.pointer (some ⟨b, 0, none⟩)]]) :
 Calls prog 180 #[v, .agg #[], .func (.func 181) #[] #[.pointer (some ⟨fb, 0, none⟩)]] w fun e A => e = .returned (.tuple #[.int .i64 (lbK ad8 MsT.id L y : Nat), .bool (acv ad8 MsT.id L y)]) ∧ Below w.heap.size w A := by
 obtain ⟨va, bb, rfl, hm⟩ := hs.len
 unfold maxLen at hm
 have hr := qq hr
 have hE := qq hE
 have hF := fun (u : World) (h : Below w.heap.size w u) (id : Int) (key : ByteArray) (K red : Bool) (mid : ByteArray) (X un : Int) (us : ByteArray) (N : Option Addr) (ar O : Nat) (U : Option Addr) (aw I : Nat) (G : ByteArray) => fcM u b fb id key K red mid X un us N ar O U aw I G yq y (hb.pure h) (hf.pure h)
 have hF := qq hF
 have al := (qz w.heap.size w).alloc (qj _) (.cells #[] 183)
 obtain ⟨W0, ak⟩ := zj (w.alloc (.cells #[] 183))
 have hZ : Blk W0 w.heap.size [] := by rw [ak]; exact Blk.new w [] 183
 rw [← ak] at al
 clear hb hf
 go_enter func180, ntmps180
 go_wp2
 rw [← ak]
 clear ak
 have a1 : (L.length : Int) ≤ 1000000 := by omega
 go_loopw [9, 10] (fun s9 am wr => ∃ lo hi : Nat, lo ≤ hi ∧ hi ≤ L.length ∧ s9 = .int .i64 lo ∧ am = .int .i64 hi ∧ Hid (∀ j, (h : j < L.length) → j < lo → ad8 (MsT.id L[j]) y < 0) ∧ Hid (∀ j, (h : j < L.length) → hi ≤ j → 0 ≤ ad8 (MsT.id L[j]) y) ∧ Below w.heap.size w wr ∧ Blk wr w.heap.size []) (fun s9 am _ => (intOf am - intOf s9).toNat)
 case atStart => exact ⟨0, L.length, by omega, by omega, rfl, rfl, qq (fun j h h' => jp h' (by omega)), qq (fun j h h' => jp h' (by omega)), al, hZ⟩
 case round =>
  obtain ⟨lo, hi, ax, ay, rfl, rfl, k1, k2, hB⟩ := hrel; obtain ⟨hB, an⟩ := hB; clear hZ al; have aq := hs.pure hB; have H := qq aq; clear aq; by_cases ba : lo < hi
  ·have F : (lo + hi) / 2 < L.length := by omega
   have av : (0 : Int) ≤ ((lo + hi) / 2 : Nat) := by omega
   have au : (((lo + hi) / 2 : Nat) : Int) < (L.length : Int) := by omega
   have a0 : (0 : Int) ≤ ((lo : Int) + (hi : Int)) / 2 := by omega
   have az : ((lo : Int) + (hi : Int)) / 2 < (L.length : Int) := by omega
   have bc : (((lo : Int) + (hi : Int)) / 2).toNat = (lo + hi) / 2 := by omega
   have aa := H.out; obtain ⟨g, off, rfl⟩ := aa.addrB F; have ah := fun x E => (hE.out x E).pure hB
   obtain ⟨id, key, K, red, mid, X, un, us, N, O, U, I, ae, ul, G, E, -⟩ := aga aa F (ah _ (qy F)); have ab := qq E; have ai : MsT.id L[(lo + hi) / 2] = id := by rw [E]
   have ac := fun (u : World) (h : Below w.heap.size w u) => hF.out u h id key K red mid X un us N ae.length O U ul.length I G
   clear E ah; obtain ⟨cc, ad⟩ := qx (ad8 (MsT.id L[(lo + hi) / 2]) y); have af : ad8 id y = cc := by rw [← ad, ai]
   rw [af] at ac; clear af ai; have aj := qq ac; have ao := qq ad; clear ac ad aa; by_cases hq : cc < 0
   ·have hlow := qq (amg cmpI_ok hr.out F (by rw [ao.out]; exact hq))
    obtain ⟨c0, c1, c2, c3, W, c5, c6, z, Z, Y, M⟩ := afh H.out F ab.out; go_wp2; go_region_held3 (fun A => A.cell? ⟨g, off + (lo + hi) / 2 * 11, none⟩ = some (.int .u64 id) ∧ A.cell? ⟨g, off + (lo + hi) / 2 * 11 + 1, none⟩ = some (.string key) ∧ A.cell? ⟨g, off + (lo + hi) / 2 * 11 + 2, none⟩ = some (.bool K) ∧ A.cell? ⟨g, off + (lo + hi) / 2 * 11 + 3, none⟩ = some (.bool red) ∧ A.cell? ⟨g, off + (lo + hi) / 2 * 11 + 4, none⟩ = some (.string mid) ∧ A.cell? ⟨g, off + (lo + hi) / 2 * 11 + 5, none⟩ = some (.int .u8 X) ∧ A.cell? ⟨g, off + (lo + hi) / 2 * 11 + 6, none⟩ = some (.int .u64 un) ∧ A.cell? ⟨g, off + (lo + hi) / 2 * 11 + 7, none⟩ = some (.string us) ∧ A.cell? ⟨g, off + (lo + hi) / 2 * 11 + 8, none⟩ = some (.slice N ae.length O) ∧ A.cell? ⟨g, off + (lo + hi) / 2 * 11 + 9, none⟩ = some (.slice U ul.length I) ∧ A.cell? ⟨g, off + (lo + hi) / 2 * 11 + 10, none⟩ = some (.string G)) (first | exact ⟨c0, c1, c2, c3, W, c5, c6, z, Z, Y, M⟩ | exact ⟨d0, d1, d2, d3, d4, d5, d6, d7, d8, d9, ag⟩) ((go_at_call 181; (with_reducible refine (aj.out _ (aad hB)).mono ?_); rintro e w1 ⟨rfl, D⟩; obtain ⟨d0, d1, d2, d3, d4, d5, d6, d7, d8, d9, ag⟩ := afh (H.out.drew.pure D) F ab.out; have hB3 := (aad hB).trans (D.mono hB.size); have hZ3 := an.drew.pure D; clear c0 c1 c2 c3 W c5 c6 z Z Y M)); exact afi
   ·have hhigh := qq (aij cmpI_ok hr.out F (by rw [ao.out]; exact hq))
    obtain ⟨c0, c1, c2, c3, W, c5, c6, z, Z, Y, M⟩ := afh H.out F ab.out; go_wp2; go_region_held3 (fun A => A.cell? ⟨g, off + (lo + hi) / 2 * 11, none⟩ = some (.int .u64 id) ∧ A.cell? ⟨g, off + (lo + hi) / 2 * 11 + 1, none⟩ = some (.string key) ∧ A.cell? ⟨g, off + (lo + hi) / 2 * 11 + 2, none⟩ = some (.bool K) ∧ A.cell? ⟨g, off + (lo + hi) / 2 * 11 + 3, none⟩ = some (.bool red) ∧ A.cell? ⟨g, off + (lo + hi) / 2 * 11 + 4, none⟩ = some (.string mid) ∧ A.cell? ⟨g, off + (lo + hi) / 2 * 11 + 5, none⟩ = some (.int .u8 X) ∧ A.cell? ⟨g, off + (lo + hi) / 2 * 11 + 6, none⟩ = some (.int .u64 un) ∧ A.cell? ⟨g, off + (lo + hi) / 2 * 11 + 7, none⟩ = some (.string us) ∧ A.cell? ⟨g, off + (lo + hi) / 2 * 11 + 8, none⟩ = some (.slice N ae.length O) ∧ A.cell? ⟨g, off + (lo + hi) / 2 * 11 + 9, none⟩ = some (.slice U ul.length I) ∧ A.cell? ⟨g, off + (lo + hi) / 2 * 11 + 10, none⟩ = some (.string G)) (first | exact ⟨c0, c1, c2, c3, W, c5, c6, z, Z, Y, M⟩ | exact ⟨d0, d1, d2, d3, d4, d5, d6, d7, d8, d9, ag⟩) ((go_at_call 181; (with_reducible refine (aj.out _ (aad hB)).mono ?_); rintro e w1 ⟨rfl, D⟩; obtain ⟨d0, d1, d2, d3, d4, d5, d6, d7, d8, d9, ag⟩ := afh (H.out.drew.pure D) F ab.out; have hB3 := (aad hB).trans (D.mono hB.size); have hZ3 := an.drew.pure D; clear c0 c1 c2 c3 W c5 c6 z Z Y M)); exact afj
  ·obtain rfl : lo = hi := by omega
   have hend := qq (amh cmpI_ok hr.out ay k1.out k2.out); clear k1 k2 ax; by_cases J : lo < L.length
   ·have av : (0 : Int) ≤ (lo : Int) := by omega
    have au : (lo : Int) < (L.length : Int) := by omega
    have aa := H.out; obtain ⟨g, off, rfl⟩ := aa.addrB J; have ah := fun x E => (hE.out x E).pure hB
    obtain ⟨id, key, K, red, mid, X, un, us, N, O, U, I, ae, ul, G, E, -⟩ := aga aa J (ah _ (qy J)); have ab := qq E; have ai : MsT.id L[lo] = id := by rw [E]
    have ac := fun (u : World) (h : Below w.heap.size w u) => hF.out u h id key K red mid X un us N ae.length O U ul.length I G
    clear E ah; obtain ⟨cc, ad⟩ := qx (ad8 (MsT.id L[lo]) y)
    have hfd := qq (show acv ad8 MsT.id L y = (cc == 0) by
     rw [hend.out.2, ← ad, Bool.eq_iff_iff, qm, beq_iff_eq]
     exact ⟨fun h => h.2, fun h => ⟨J, h⟩⟩)
    have af : ad8 id y = cc := by rw [← ad, ai]
    rw [af] at ac; clear af ai; have aj := qq ac; clear ac ad aa; obtain ⟨c0, c1, c2, c3, W, c5, c6, z, Z, Y, M⟩ := afh H.out J ab.out; go_wp2; go_region_held3 (fun A => A.cell? ⟨g, off + lo * 11, none⟩ = some (.int .u64 id) ∧ A.cell? ⟨g, off + lo * 11 + 1, none⟩ = some (.string key) ∧ A.cell? ⟨g, off + lo * 11 + 2, none⟩ = some (.bool K) ∧ A.cell? ⟨g, off + lo * 11 + 3, none⟩ = some (.bool red) ∧ A.cell? ⟨g, off + lo * 11 + 4, none⟩ = some (.string mid) ∧ A.cell? ⟨g, off + lo * 11 + 5, none⟩ = some (.int .u8 X) ∧ A.cell? ⟨g, off + lo * 11 + 6, none⟩ = some (.int .u64 un) ∧ A.cell? ⟨g, off + lo * 11 + 7, none⟩ = some (.string us) ∧ A.cell? ⟨g, off + lo * 11 + 8, none⟩ = some (.slice N ae.length O) ∧ A.cell? ⟨g, off + lo * 11 + 9, none⟩ = some (.slice U ul.length I) ∧ A.cell? ⟨g, off + lo * 11 + 10, none⟩ = some (.string G)) (first | exact ⟨c0, c1, c2, c3, W, c5, c6, z, Z, Y, M⟩ | exact ⟨d0, d1, d2, d3, d4, d5, d6, d7, d8, d9, ag⟩) ((go_at_call 181; (with_reducible refine (aj.out _ (aad hB)).mono ?_); rintro e w1 ⟨rfl, D⟩; obtain ⟨d0, d1, d2, d3, d4, d5, d6, d7, d8, d9, ag⟩ := afh (H.out.drew.pure D) J ab.out; have hB3 := (aad hB).trans (D.mono hB.size); have hZ3 := an.drew.pure D; clear c0 c1 c2 c3 W c5 c6 z Z Y M)); exact aeq
   ·have hd1 : decide ((lo : Int) < (L.length : Int)) = false := qg (by omega)
    have hd2 : decide (lo < L.length) = false := qg J; have hfd := qq (show acv ad8 MsT.id L y = false by rw [hend.out.2]; exact qg (fun h => J h.1)); exact afk
theorem bdf (w : World) (v : Value) (L : List MsT) (b : Nat) (E : ByteArray) (y : Int) (hs : Slc abl 11 w v L) (P : Nat → Prop) (N : ∀ m ∈ L, Rd P w m.pr.app) (D : RisK ad8 MsT.id L) (M : L.length ≤ 1000000) (O : Blk w b [.string E, .int .u64 y]) :
 Calls prog 149 #[v, .func (.func 150) #[] #[.pointer (some ⟨b, 0, none⟩)]] w fun e H => e = .returned (.tuple #[.int .i64 (lbK ad8 MsT.id L y : Nat), .bool (acv ad8 MsT.id L y)]) ∧ Below w.heap.size w H := by
 have A := (qz w.heap.size w).alloc (qj _) (.cells #[.func (.func 150) #[] #[.pointer (some ⟨b, 0, none⟩)]] 176)
 have I := Blk.new w [.func (.func 150) #[] #[.pointer (some ⟨b, 0, none⟩)]] 176
 have F := qq (bd8 _ v L b w.heap.size E y (hs.pure A) P (fun x J => (N x J).pure A) D M (O.pure A) I)
 obtain ⟨U, X, Y, rfl⟩ := hs.shape3
 clear D
 go_enter func149, ntmps149
 go_wp2_with (go_at_call 180; (with_reducible refine F.out.mono ?_); rintro e W ⟨rfl, G⟩; have K := A.trans (G.mono A.size))
 go_ret2
 exact ⟨rfl, K⟩
theorem atQ (w : World) (nx : Int) (D : Option Addr) (qn qc : Nat) (I : Option Addr) (J F : Nat) (G : Option Addr) (K H : Nat) (L : List QuT) (y : ByteArray) (hs : Slc aar 3 w (.slice D qn qc) L) (P : Nat → Prop) (Z : ∀ q ∈ L, MsRd P w q.mv q.zw) (M : RisK abf QuT.name L) (Y : L.length ≤ 1000000) :
 Calls prog 88 #[.agg #[.int .u64 nx, .slice D qn qc, .slice I J F, .slice G K H], .string y] w fun e U => e = .returned (.tuple #[.int .i64 (lbK abf QuT.name L y : Nat), .bool (acv abf QuT.name L y)]) ∧ Below w.heap.size w U := by
 have E := ((qz w.heap.size w).alloc (qj _) (.cells #[.int .u64 nx, .slice D qn qc, .slice I J F, .slice G K H] 27)).alloc (by simp) (.cells #[.string y] 9)
 have A := (Blk.new w [.int .u64 nx, .slice D qn qc, .slice I J F, .slice G K H] 27).alloc (.cells #[.string y] 9)
 have B := Blk.newE (w.alloc (.cells #[.int .u64 nx, .slice D qn qc, .slice I J F, .slice G K H] 27)) [.string y] 9 (w.heap.size + 1) (by simp)
 have O := qq (bdc _ (.slice D qn qc) L (w.heap.size + 1) y (hs.pure E) P (fun x W => (Z x W).pure E) M Y B)
 have z := A.at 1 rfl
 clear M
 go_enter func88, ntmps88
 go_wp2_with (go_at_call 137; (with_reducible refine O.out.mono ?_); rintro e h ⟨rfl, N⟩; have X := E.trans (N.mono E.size))
 go_ret2
 exact ⟨rfl, X⟩
theorem atB (w : World) (nx : Int) (K : Option Addr) (qn qc : Nat) (G : Option Addr) (H F : Nat) (J : Option Addr) (N M : Nat) (L : List BrT) (E : Int) (D A : ByteArray) (hs : Slc aa7 5 w (.slice G H F) L) (P : Nat → Prop) (z : ∀ b ∈ L, EnRd P w b.en) (O : RisK aav BrT.x L) (h : L.length ≤ 1000000) :
 Calls prog 52 #[.agg #[.int .u64 nx, .slice K qn qc, .slice G H F, .slice J N M], .agg #[.int .u32 E, .string D, .string A]] w fun e X => e = .returned (.tuple #[.int .i64 (lbK aav BrT.x L (E, D, A) : Nat), .bool (acv aav BrT.x L (E, D, A))]) ∧ Below w.heap.size w X := by
 have I := ((qz w.heap.size w).alloc (qj _) (.cells #[.int .u64 nx, .slice K qn qc, .slice G H F, .slice J N M] 27)).alloc (by simp) (.cells #[.int .u32 E, .string D, .string A] 30)
 have aa := (Blk.new w [.int .u64 nx, .slice K qn qc, .slice G H F, .slice J N M] 27).alloc (.cells #[.int .u32 E, .string D, .string A] 30)
 have B := Blk.newE (w.alloc (.cells #[.int .u64 nx, .slice K qn qc, .slice G H F, .slice J N M] 27)) [.int .u32 E, .string D, .string A] 30 (w.heap.size + 1) (by simp)
 have W := qq (bdd _ (.slice G H F) L (w.heap.size + 1) E D A (hs.pure I) P (fun x Y => (z x Y).pure I) O h B)
 have c0 := aa.at 2 rfl
 clear O
 go_enter func52, ntmps52
 go_wp2_with (go_at_call 119; (with_reducible refine W.out.mono ?_); rintro e w1 ⟨rfl, U⟩; have Z := I.trans (U.mono I.size))
 go_ret2
 exact ⟨rfl, Z⟩
theorem atH (w : World) (nx : Int) (N : Option Addr) (qn qc : Nat) (J : Option Addr) (K M : Nat) (H : Option Addr) (I G : Nat) (L : List He) (F : Int) (D E : ByteArray) (hs : Slc adp 4 w (.slice H I G) L) (U : RisK aav He.x L) (h : L.length ≤ 1000000) :
 Calls prog 98 #[.agg #[.int .u64 nx, .slice N qn qc, .slice J K M, .slice H I G], .agg #[.int .u32 F, .string D, .string E]] w fun e Y => e = .returned (.tuple #[.int .i64 (lbK aav He.x L (F, D, E) : Nat), .bool (acv aav He.x L (F, D, E))]) ∧ Below w.heap.size w Y := by
 have O := ((qz w.heap.size w).alloc (qj _) (.cells #[.int .u64 nx, .slice N qn qc, .slice J K M, .slice H I G] 27)).alloc (by simp) (.cells #[.int .u32 F, .string D, .string E] 30)
 have A := (Blk.new w [.int .u64 nx, .slice N qn qc, .slice J K M, .slice H I G] 27).alloc (.cells #[.int .u32 F, .string D, .string E] 30)
 have B := Blk.newE (w.alloc (.cells #[.int .u64 nx, .slice N qn qc, .slice J K M, .slice H I G] 27)) [.int .u32 F, .string D, .string E] 30 (w.heap.size + 1) (by simp)
 have X := qq (bde _ (.slice H I G) L (w.heap.size + 1) F D E (hs.pure O) U h B)
 have z := A.at 3 rfl
 clear U
 go_enter func98, ntmps98
 go_wp2_with (go_at_call 144; (with_reducible refine X.out.mono ?_); rintro e w1 ⟨rfl, W⟩; have Z := O.trans (W.mono O.size))
 go_ret2
 exact ⟨rfl, Z⟩
structure QsOk (qs : List QuT) : Prop where
 rq : RisK abf QuT.name qs
 rm : ∀ q ∈ qs, RisK ad8 MsT.id q.zw
 lq : qs.length ≤ 1000000
 lm : ∀ q ∈ qs, q.zw.length ≤ 1000000
structure QsRd (P : Nat → Prop) (w : World) (v : Value) (qs : List QuT) : Prop where
 s : Slc aar 3 w v qs
 sP : ∀ k, v.ownBlock = some k → qs ≠ [] → P k
 m : ∀ q ∈ qs, MsRd P w q.mv q.zw
theorem QsRd.pure {P : Nat → Prop} {w D : World} {v : Value} {l : List QuT} (h : QsRd P w v l) (A : Below w.heap.size w D) : QsRd P D v l := ⟨h.s.pure A, h.sP, fun q E => (h.m q E).pure A⟩
theorem StRd.qs {P : Nat → Prop} {w : World} {t : StT} (h : StRd P w t) : QsRd P w t.qv t.qs := ⟨h.q, h.qP, h.m⟩
def aqg (qs : List QuT) (r : Rf) : Nat × Nat × Bool :=
 if acv abf QuT.name qs r.q = true then (match qs[lbK abf QuT.name qs r.q]? with | some q => (lbK abf QuT.name qs r.q, lbK ad8 MsT.id q.zw r.id, acv ad8 MsT.id q.zw r.id) | none => (0, 0, false)) else (0, 0, false)
theorem aqh {n : Int} {qs : List QuT} {r : Rf} (h : qsB n (qs.map QuT.q) = true) : (aqg qs r).2.2 = hasM (qs.map QuT.q) r := by
 rw [azp h, ← anm]
 unfold aqg
 by_cases A : acv abf QuT.name qs r.q = true
 ·obtain ⟨D, -⟩ := aec cmpB_ok (awq h) A
  rw [qw A, dif_pos D, List.getElem?_eq_getElem D, A]; simp
 ·rw [qk A]
  have : acv abf QuT.name qs r.q = false := by simpa using A
  rw [this]; rfl
theorem ag6 (w : World) (nx : Int) (J : Option Addr) (qc : Nat) (W : Option Addr) (X M : Nat) (N : Option Addr) (Y U : Nat) (qs : List QuT) (P : Nat → Prop) (q : ByteArray) (id : Int) (hR : QsRd P w (.slice J qs.length qc) qs) (E : QsOk qs) :
 Calls prog 101 #[.agg #[.int .u64 nx, .slice J qs.length qc, .slice W X M, .slice N Y U], .agg #[.string q, .int .u64 id]] w fun e w' => e = .returned (.tuple #[.int .i64 ((aqg qs ⟨q, id⟩).1 : Nat), .int .i64 ((aqg qs ⟨q, id⟩).2.1 : Nat), .bool (aqg qs ⟨q, id⟩).2.2]) ∧ Below w.heap.size w w' := by
 have G := ((qz w.heap.size w).alloc (qj _) (.cells #[.int .u64 nx, .slice J qs.length qc, .slice W X M, .slice N Y U] 27)).alloc (by simp) (.cells #[.string q, .int .u64 id] 68)
 have ag := (Blk.new w [.int .u64 nx, .slice J qs.length qc, .slice W X M, .slice N Y U] 27).alloc (.cells #[.string q, .int .u64 id] 68)
 have B := Blk.newE (w.alloc (.cells #[.int .u64 nx, .slice J qs.length qc, .slice W X M, .slice N Y U] 27)) [.string q, .int .u64 id] 68 (w.heap.size + 1) (by simp)
 have z := qq (atQ _ nx J qs.length qc W X M N Y U qs q (hR.s.pure G) P (fun x A => (hR.m x A).pure G) E.rq E.lq)
 obtain ⟨c0, c1, c2, c3⟩ := ag.a4; have d0 := B.at 0 rfl
 obtain ⟨i, hi⟩ := qx (lbK abf QuT.name qs q)
 obtain ⟨h, hh⟩ := qx (acv abf QuT.name qs q)
 have O := qq (show aqg qs ⟨q, id⟩ = if h = true then (match qs[i]? with | some t => (i, lbK ad8 MsT.id t.zw id, acv ad8 MsT.id t.zw id) | none => (0, 0, false)) else (0, 0, false) by subst hi; subst hh; rfl)
 have ab := z.out
 have ae := qq (fun (e : h = true) => show ∃ h : i < qs.length, True by rw [← hh] at e; obtain ⟨h1, -⟩ := aec cmpB_ok E.rq e; rw [hi] at h1; exact ⟨h1, trivial⟩)
 rw [hi, hh] at ab
 have z := qq ab
 have ad := qq E; have af := qq hR
 have an := E.lq
 clear ab hi hh E hR
 cases h
 ·simp only [Bool.false_eq_true, if_false] at O
  rw [O.out]; go_enter func101, ntmps101; go_wp2_with (go_at_call 88; (with_reducible refine z.out.mono ?_); rintro e w1 ⟨rfl, K⟩; have I := G.trans (K.mono G.size)); go_ret3; exact ⟨rfl, I⟩
 ·obtain ⟨D, -⟩ := ae.out rfl
  simp only [if_true] at O; have F := O.out; rw [List.getElem?_eq_getElem D] at F; dsimp only at F; have H := af.out.m _ (qy D); rcases A : qs[i] with ⟨ak, am, mv, zw⟩; have aa := ad.out.lm _ (qy D); have Z := ad.out.rm _ (qy D); rw [A] at F H aa Z; dsimp only at F H aa Z; obtain ⟨ma, mc, rfl, -⟩ := H.s.len; rw [F]; dsimp only; obtain ⟨k, hk⟩ := qx (lbK ad8 MsT.id zw id); obtain ⟨b, hb⟩ := qx (acv ad8 MsT.id zw id); have ac := fun (u : World) (h : Below w.heap.size w u) (hb : Blk u (w.heap.size + 1) [.string q, .int .u64 id]) => bdf u (.slice ma zw.length mc) zw (w.heap.size + 1) q id (H.s.pure h) P (fun x A => (H.r x A).pure h) Z aa hb
  rw [hk, hb] at ac ⊢; have ah := qq ac; have aj := qq A; have ao : (i : Int) < (qs.length : Int) := by omega
  have al : (0 : Int) ≤ (i : Int) := by omega
  clear O F ae hk hb ac A H aa Z; go_enter func101, ntmps101; go_upto_region 4 with (go_at_call 88; (with_reducible refine z.out.mono ?_); rintro e w1 ⟨rfl, K⟩; have I := G.trans (K.mono G.size)); have A2 := ag.pure K; have B2 := B.pure K; have hS := af.out.s.pure I; obtain ⟨g, off, rfl⟩ := hS.addrB D; obtain ⟨-, -, q2⟩ := aby hS D aj.out; clear c0 c1 c2 c3 d0; have c1 := A2.at 1 rfl; go_wp2_with (go_at_call 149; (with_reducible refine (ah.out _ I B2).mono ?_); rintro e w2 ⟨rfl, ai⟩; have hF := I.trans (ai.mono I.size)); go_ret3; exact ⟨rfl, hF⟩
theorem bdg (w : World) (D : ByteArray) (G : Int) (I : Option Addr) (M N : Nat) (E : ByteArray) (F : Int) (J : Option Addr) (K H : Nat) : Calls prog 113 #[.agg #[.string D, .int .u64 G, .slice I M N], .agg #[.string E, .int .u64 F, .slice J K H]] w fun e O => e = .returned (.int .i64 (abf D E)) ∧ Below w.heap.size w O := by
 have U := ((qz w.heap.size w).alloc (qj _) (.cells #[.string D, .int .u64 G, .slice I M N] 51)).alloc (by simp) (.cells #[.string E, .int .u64 F, .slice J K H] 51)
 have A := (Blk.new w [.string D, .int .u64 G, .slice I M N] 51).alloc (.cells #[.string E, .int .u64 F, .slice J K H] 51)
 have B := Blk.newE (w.alloc (.cells #[.string D, .int .u64 G, .slice I M N] 51)) [.string E, .int .u64 F, .slice J K H] 51 (w.heap.size + 1) (by simp)
 have W := A.at 0 rfl; have X := B.at 0 rfl
 go_enter func113, ntmps113
 go_wp2_with (go_at_call 114; refine (apa _ _ _).mono ?_; rintro e O ⟨rfl, rfl⟩)
 go_ret
 exact ⟨rfl, U⟩
theorem agd {P : Prop} (h : P := by
 go_wp2
 go_roundw
 case rel => exact ⟨k + 1, by omega, .inl (by omega), by go_num, hall2, hB3⟩
 case measure => simp [intOf]; omega) : P := h
theorem age {P : Prop} (h : P := by
 have hj1 : ¬ (k : Int) < (L.length : Int) := by omega
 go_wp2
 go_ret
 exact ⟨by rw [hgood.out]; rfl, hB⟩) : P := h
theorem ahn {P : Prop} (h : P := by
 go_wp2
 go_ret
 exact ⟨by rw [hbad.out]; rfl, hB3⟩) : P := h
theorem bdh (w : World) (v : Value) (L : List QuT) (hs : Slc aar 3 w v L) (P : Nat → Prop) (hE : ∀ q ∈ L, MsRd P w q.mv q.zw) (hL : L.length ≤ 1000000) :
 Calls prog 112 #[v, .func (.func 113) #[] #[]] w fun e A => e = .returned (.bool (aia abf QuT.name L)) ∧ Below w.heap.size w A := by
 obtain ⟨va, ba, rfl, -⟩ := hs.len
 have hE := qq hE
 have ar := qq hs
 clear hs
 have aw : (L.length : Int) ≤ 1000000 := by omega
 go_enter func112, ntmps112
 go_wp2
 go_loopw [5] (fun s5 wr => ∃ k : Nat, 1 ≤ k ∧ (k ≤ L.length ∨ k = 1) ∧ s5 = .int .i64 k ∧ Hid (∀ i, (h : i + 1 < L.length) → i + 1 < k → abf (QuT.name (L[i]'(by omega))) (QuT.name L[i + 1]) < 0) ∧ Below w.heap.size w wr) (fun s5 _ => L.length + 1 - (intOf s5).toNat)
 case atStart => exact ⟨1, qj _, .inr rfl, rfl, qq (fun i h h' => jp h' (by omega)), qz _ _⟩
 case round =>
  obtain ⟨k, ax, hj, rfl, al, hB⟩ := hrel; by_cases F : k < L.length
  ·have au : (1 : Int) ≤ (k : Int) := by omega
   have a0 : (0 : Int) ≤ (k : Int) - 1 := by omega
   have a1 : (k : Int) - 1 < (L.length : Int) := by omega
   have ay : (0 : Int) ≤ (k : Int) ∧ (k : Int) < (L.length : Int) := by omega
   have av : ((k : Int) - 1).toNat = k - 1 := by omega
   have I : k - 1 < L.length := by omega
   have D := qq (ar.out.pure hB); obtain ⟨g, off, rfl⟩ := D.out.addrB F; have ad := fun x hx => (hE.out x hx).pure hB
   obtain ⟨G, z, ah, aj, Y, af, -⟩ := aep D.out I (ad _ (qy I)); obtain ⟨H, aa, ae, ag, Z, ai, -⟩ := aep D.out F (ad _ (qy F)); have ak : abf (QuT.name L[k - 1]) (QuT.name L[k]) = abf G H := by rw [af, ai]
   have hF := fun (u : World) => bdg u G z ah Y.length aj H aa ae Z.length ag
   obtain ⟨J, hc⟩ := qx (abf G H); rw [hc] at ak hF; have am := qq ak; have an := qq hF; have ac := qq af; have ab := qq ai; have az : IntKind.i64.wrap ((k : Int) - 1) = (k : Int) - 1 := by rw [IntKind.wrap_i64]; omega
   clear ak hc hF af ai ad; obtain ⟨K, W, M⟩ := aby D.out I ac.out; obtain ⟨X, O, N⟩ := aby D.out F ab.out; by_cases U : J < 0
   ·have hall2 := qq (show ∀ i, (h : i + 1 < L.length) → i + 1 < k + 1 → abf (QuT.name (L[i]'(by omega))) (QuT.name L[i + 1]) < 0 from fun i h hi => by
     rcases Nat.lt_or_ge (i + 1) k with q | q
     ·exact al.out i h q
     ·obtain rfl : i = k - 1 := by omega
      have e : k - 1 + 1 = k := by omega
      simp only [e]
      rw [am.out]; exact U)
    have aq : decide (0 ≤ J) = false := qg (by omega); have ao : ¬ 0 ≤ J := by omega
    clear U; go_wp2; go_region_held3 (fun A => A.cell? ⟨g, off + (k - 1) * 3, none⟩ = some (.string G) ∧ A.cell? ⟨g, off + (k - 1) * 3 + 1, none⟩ = some (.int .u64 z) ∧ A.cell? ⟨g, off + (k - 1) * 3 + 2, none⟩ = some (.slice ah Y.length aj) ∧ A.cell? ⟨g, off + k * 3, none⟩ = some (.string H) ∧ A.cell? ⟨g, off + k * 3 + 1, none⟩ = some (.int .u64 aa) ∧ A.cell? ⟨g, off + k * 3 + 2, none⟩ = some (.slice ae Z.length ag)) (first | exact ⟨K, W, M, X, O, N⟩ | exact ⟨e0, e1, e2, f0, f1, f2⟩) ((go_at_call 113; (with_reducible refine (an.out _).mono ?_); rintro e w1 ⟨rfl, E⟩; obtain ⟨e0, e1, e2⟩ := aby (D.out.drew.pure E) I ac.out; obtain ⟨f0, f1, f2⟩ := aby (D.out.drew.pure E) F ab.out; have hB3 := (aad hB).trans (E.mono hB.size); clear K W M X O N)); exact agd
   ·have hbad := qq (show aia abf QuT.name L = false by
     cases hr : aia abf QuT.name L with
     | false => rfl
     | true =>
      unfold aia at hr; have h := ahi.1 hr (k - 1) (by omega); have e : k - 1 + 1 = k := by omega
      simp only [e, qm] at h; rw [am.out] at h
      exact jp h U)
    have aq : decide (0 ≤ J) = true := qp (by omega); have ao : 0 ≤ J := by omega
    clear U; go_wp2; go_region_held3 (fun A => A.cell? ⟨g, off + (k - 1) * 3, none⟩ = some (.string G) ∧ A.cell? ⟨g, off + (k - 1) * 3 + 1, none⟩ = some (.int .u64 z) ∧ A.cell? ⟨g, off + (k - 1) * 3 + 2, none⟩ = some (.slice ah Y.length aj) ∧ A.cell? ⟨g, off + k * 3, none⟩ = some (.string H) ∧ A.cell? ⟨g, off + k * 3 + 1, none⟩ = some (.int .u64 aa) ∧ A.cell? ⟨g, off + k * 3 + 2, none⟩ = some (.slice ae Z.length ag)) (first | exact ⟨K, W, M, X, O, N⟩ | exact ⟨e0, e1, e2, f0, f1, f2⟩) ((go_at_call 113; (with_reducible refine (an.out _).mono ?_); rintro e w1 ⟨rfl, E⟩; obtain ⟨e0, e1, e2⟩ := aby (D.out.drew.pure E) I ac.out; obtain ⟨f0, f1, f2⟩ := aby (D.out.drew.pure E) F ab.out; have hB3 := (aad hB).trans (E.mono hB.size); clear K W M X O N)); exact ahn
  ·have hgood := qq (show aia abf QuT.name L = true by
    unfold aia; rw [ahi]; intro i h; rw [qm]
    exact al.out i h (by omega))
   exact age
theorem alm {P : Prop} (h : P := by
 go_wp2_with (go_at_call 51; refine (ajo _ (xf1, xg1, xb1) (xf2, xg2, xb2)).mono ?_; rintro e w1 ⟨rfl, hB1⟩; have hB := hB.trans (hB1.mono hB.size))
 go_ret
 exact ⟨rfl, hB⟩) : P := h
theorem bdi (w : World) (xf1 : Int) (xg1 xb1 : ByteArray) (I : Option Addr) (G K : Nat) (O : Option Addr) (D E : Nat) (xf2 : Int) (xg2 xb2 : ByteArray) (J : Option Addr) (N U : Nat) (F : Option Addr) (M H : Nat) : Calls prog 116 #[.agg #[.int .u32 xf1, .string xg1, .string xb1, .slice I G K, .slice O D E], .agg #[.int .u32 xf2, .string xg2, .string xb2, .slice J N U, .slice F M H]] w fun e W => e = .returned (.int .i64 (aav (xf1, xg1, xb1) (xf2, xg2, xb2))) ∧ Below w.heap.size w W := by
 have hB := ((qz w.heap.size w).alloc (qj _) (.cells #[.int .u32 xf1, .string xg1, .string xb1, .slice I G K, .slice O D E] 62)).alloc (by simp) (.cells #[.int .u32 xf2, .string xg2, .string xb2, .slice J N U, .slice F M H] 62)
 have A := (Blk.new w [.int .u32 xf1, .string xg1, .string xb1, .slice I G K, .slice O D E] 62).alloc (.cells #[.int .u32 xf2, .string xg2, .string xb2, .slice J N U, .slice F M H] 62)
 have B := Blk.newE (w.alloc (.cells #[.int .u32 xf1, .string xg1, .string xb1, .slice I G K, .slice O D E] 62)) [.int .u32 xf2, .string xg2, .string xb2, .slice J N U, .slice F M H] 62 (w.heap.size + 1) (by simp)
 obtain ⟨Z, X, z⟩ := A.a3; obtain ⟨d0, Y, d2⟩ := B.a3
 go_enter func116, ntmps116
 exact alm
theorem bdj (w : World) (v : Value) (L : List BrT) (hs : Slc aa7 5 w v L) (P : Nat → Prop) (hE : ∀ b ∈ L, EnRd P w b.en) (hL : L.length ≤ 1000000) :
 Calls prog 115 #[v, .func (.func 116) #[] #[]] w fun e A => e = .returned (.bool (aia aav BrT.x L)) ∧ Below w.heap.size w A := by
 obtain ⟨va, bi, rfl, -⟩ := hs.len
 have hE := qq hE
 have a0 := qq hs
 clear hs
 have bb : (L.length : Int) ≤ 1000000 := by omega
 go_enter func115, ntmps115
 go_wp2
 go_loopw [5] (fun s5 wr => ∃ k : Nat, 1 ≤ k ∧ (k ≤ L.length ∨ k = 1) ∧ s5 = .int .i64 k ∧ Hid (∀ i, (h : i + 1 < L.length) → i + 1 < k → aav (BrT.x (L[i]'(by omega))) (BrT.x L[i + 1]) < 0) ∧ Below w.heap.size w wr) (fun s5 _ => L.length + 1 - (intOf s5).toNat)
 case atStart => exact ⟨1, qj _, .inr rfl, rfl, qq (fun i h h' => jp h' (by omega)), qz _ _⟩
 case round =>
  obtain ⟨k, bc, hj, rfl, av, hB⟩ := hrel; by_cases F : k < L.length
  ·have a1 : (1 : Int) ≤ (k : Int) := by omega
   have bg : (0 : Int) ≤ (k : Int) - 1 := by omega
   have bh : (k : Int) - 1 < (L.length : Int) := by omega
   have bd : (0 : Int) ≤ (k : Int) ∧ (k : Int) < (L.length : Int) := by omega
   have ba : ((k : Int) - 1).toNat = k - 1 := by omega
   have G : k - 1 < L.length := by omega
   have D := qq (a0.out.pure hB); obtain ⟨g, off, rfl⟩ := D.out.addrB F; have ag := fun x hx => (hE.out x hx).pure hB
   obtain ⟨M, J, I, am, ah, aj, an, ac, aa, ai, -⟩ := adq D.out G (ag _ (qy G)); obtain ⟨K, N, H, au, ak, al, aq, ad, ab, ao, -⟩ := adq D.out F (ag _ (qy F)); have ar : aav (BrT.x L[k - 1]) (BrT.x L[k]) = aav (M, J, I) (K, N, H) := by rw [ai, ao]
   have hF := fun (u : World) => bdi u M J I am ac.length ah aj aa.length an K N H au ad.length ak al ab.length aq
   obtain ⟨O, hc⟩ := qx (aav (M, J, I) (K, N, H)); rw [hc] at ar hF; have aw := qq ar; have ax := qq hF; have af := qq ai; have ae := qq ao; have bf : IntKind.i64.wrap ((k : Int) - 1) = (k : Int) - 1 := by rw [IntKind.wrap_i64]; omega
   clear ar hc hF ai ao ag; obtain ⟨X, c1, Y, c3, U⟩ := ach D.out G af.out; obtain ⟨d0, d1, Z, W, z⟩ := ach D.out F ae.out; by_cases hq : O < 0
   ·have hall2 := qq (show ∀ i, (h : i + 1 < L.length) → i + 1 < k + 1 → aav (BrT.x (L[i]'(by omega))) (BrT.x L[i + 1]) < 0 from fun i h hi => by
     rcases Nat.lt_or_ge (i + 1) k with q | q
     ·exact av.out i h q
     ·obtain rfl : i = k - 1 := by omega
      have e : k - 1 + 1 = k := by omega
      simp only [e]
      rw [aw.out]; exact hq)
    have az : decide (0 ≤ O) = false := qg (by omega); have ay : ¬ 0 ≤ O := by omega
    clear hq; go_wp2; go_region_held3 (fun A => A.cell? ⟨g, off + (k - 1) * 5, none⟩ = some (.int .u32 M) ∧ A.cell? ⟨g, off + (k - 1) * 5 + 1, none⟩ = some (.string J) ∧ A.cell? ⟨g, off + (k - 1) * 5 + 2, none⟩ = some (.string I) ∧ A.cell? ⟨g, off + (k - 1) * 5 + 3, none⟩ = some (.slice am ac.length ah) ∧ A.cell? ⟨g, off + (k - 1) * 5 + 4, none⟩ = some (.slice aj aa.length an) ∧ A.cell? ⟨g, off + k * 5, none⟩ = some (.int .u32 K) ∧ A.cell? ⟨g, off + k * 5 + 1, none⟩ = some (.string N) ∧ A.cell? ⟨g, off + k * 5 + 2, none⟩ = some (.string H) ∧ A.cell? ⟨g, off + k * 5 + 3, none⟩ = some (.slice au ad.length ak) ∧ A.cell? ⟨g, off + k * 5 + 4, none⟩ = some (.slice al ab.length aq)) (first | exact ⟨X, c1, Y, c3, U, d0, d1, Z, W, z⟩ | exact ⟨e0, e1, e2, e3, e4, f0, f1, f2, f3, f4⟩) ((go_at_call 116; (with_reducible refine (ax.out _).mono ?_); rintro e w1 ⟨rfl, E⟩; obtain ⟨e0, e1, e2, e3, e4⟩ := ach (D.out.drew.pure E) G af.out; obtain ⟨f0, f1, f2, f3, f4⟩ := ach (D.out.drew.pure E) F ae.out; have hB3 := (aad hB).trans (E.mono hB.size); clear X c1 Y c3 U d0 d1 Z W z)); exact agd
   ·have hbad := qq (show aia aav BrT.x L = false by
     cases hr : aia aav BrT.x L with
     | false => rfl
     | true =>
      unfold aia at hr; have h := ahi.1 hr (k - 1) (by omega); have e : k - 1 + 1 = k := by omega
      simp only [e, qm] at h; rw [aw.out] at h
      exact jp h hq)
    have az : decide (0 ≤ O) = true := qp (by omega); have ay : 0 ≤ O := by omega
    clear hq; go_wp2; go_region_held3 (fun A => A.cell? ⟨g, off + (k - 1) * 5, none⟩ = some (.int .u32 M) ∧ A.cell? ⟨g, off + (k - 1) * 5 + 1, none⟩ = some (.string J) ∧ A.cell? ⟨g, off + (k - 1) * 5 + 2, none⟩ = some (.string I) ∧ A.cell? ⟨g, off + (k - 1) * 5 + 3, none⟩ = some (.slice am ac.length ah) ∧ A.cell? ⟨g, off + (k - 1) * 5 + 4, none⟩ = some (.slice aj aa.length an) ∧ A.cell? ⟨g, off + k * 5, none⟩ = some (.int .u32 K) ∧ A.cell? ⟨g, off + k * 5 + 1, none⟩ = some (.string N) ∧ A.cell? ⟨g, off + k * 5 + 2, none⟩ = some (.string H) ∧ A.cell? ⟨g, off + k * 5 + 3, none⟩ = some (.slice au ad.length ak) ∧ A.cell? ⟨g, off + k * 5 + 4, none⟩ = some (.slice al ab.length aq)) (first | exact ⟨X, c1, Y, c3, U, d0, d1, Z, W, z⟩ | exact ⟨e0, e1, e2, e3, e4, f0, f1, f2, f3, f4⟩) ((go_at_call 116; (with_reducible refine (ax.out _).mono ?_); rintro e w1 ⟨rfl, E⟩; obtain ⟨e0, e1, e2, e3, e4⟩ := ach (D.out.drew.pure E) G af.out; obtain ⟨f0, f1, f2, f3, f4⟩ := ach (D.out.drew.pure E) F ae.out; have hB3 := (aad hB).trans (E.mono hB.size); clear X c1 Y c3 U d0 d1 Z W z)); exact ahn
  ·have hgood := qq (show aia aav BrT.x L = true by
    unfold aia; rw [ahi]; intro i h; rw [qm]
    exact av.out i h (by omega))
   exact age
theorem bdk (w : World) (xf1 : Int) (xg1 xb1 : ByteArray) (E : Bool) (xf2 : Int) (xg2 xb2 : ByteArray) (D : Bool) : Calls prog 50 #[.agg #[.int .u32 xf1, .string xg1, .string xb1, .bool E], .agg #[.int .u32 xf2, .string xg2, .string xb2, .bool D]] w fun e F => e = .returned (.int .i64 (aav (xf1, xg1, xb1) (xf2, xg2, xb2))) ∧ Below w.heap.size w F := by
 have hB := ((qz w.heap.size w).alloc (qj _) (.cells #[.int .u32 xf1, .string xg1, .string xb1, .bool E] 90)).alloc (by simp) (.cells #[.int .u32 xf2, .string xg2, .string xb2, .bool D] 90)
 have A := (Blk.new w [.int .u32 xf1, .string xg1, .string xb1, .bool E] 90).alloc (.cells #[.int .u32 xf2, .string xg2, .string xb2, .bool D] 90)
 have B := Blk.newE (w.alloc (.cells #[.int .u32 xf1, .string xg1, .string xb1, .bool E] 90)) [.int .u32 xf2, .string xg2, .string xb2, .bool D] 90 (w.heap.size + 1) (by simp)
 obtain ⟨I, G, J⟩ := A.a3; obtain ⟨M, H, K⟩ := B.a3
 go_enter func50, ntmps50
 exact alm
theorem bdl (w : World) (v : Value) (L : List He) (hs : Slc adp 4 w v L) (hL : L.length ≤ 1000000) :
 Calls prog 49 #[v, .func (.func 50) #[] #[]] w fun e A => e = .returned (.bool (aia aav He.x L)) ∧ Below w.heap.size w A := by
 obtain ⟨va, ay, rfl, -⟩ := hs.len
 have am := qq hs
 clear hs
 have aq : (L.length : Int) ≤ 1000000 := by omega
 go_enter func49, ntmps49
 go_wp2
 go_loopw [5] (fun s5 wr => ∃ k : Nat, 1 ≤ k ∧ (k ≤ L.length ∨ k = 1) ∧ s5 = .int .i64 k ∧ Hid (∀ i, (h : i + 1 < L.length) → i + 1 < k → aav (He.x (L[i]'(by omega))) (He.x L[i + 1]) < 0) ∧ Below w.heap.size w wr) (fun s5 _ => L.length + 1 - (intOf s5).toNat)
 case atStart => exact ⟨1, qj _, .inr rfl, rfl, qq (fun i h h' => jp h' (by omega)), qz _ _⟩
 case round =>
  obtain ⟨k, ar, hj, rfl, ah, hB⟩ := hrel; by_cases F : k < L.length
  ·have an : (1 : Int) ≤ (k : Int) := by omega
   have aw : (0 : Int) ≤ (k : Int) - 1 := by omega
   have ax : (k : Int) - 1 < (L.length : Int) := by omega
   have au : (0 : Int) ≤ (k : Int) ∧ (k : Int) < (L.length : Int) := by omega
   have ao : ((k : Int) - 1).toNat = k - 1 := by omega
   have O : k - 1 < L.length := by omega
   have D := qq (am.out.pure hB); obtain ⟨g, off, rfl⟩ := D.out.addrB F; obtain ⟨K, I, H, ad, ac, -⟩ := agb D.out O; obtain ⟨J, M, G, ae, af, -⟩ := agb D.out F; have ag : aav (He.x L[k - 1]) (He.x L[k]) = aav (K, I, H) (J, M, G) := by rw [ac, af]
   have hF := fun (u : World) => bdk u K I H ad J M G ae
   obtain ⟨N, hc⟩ := qx (aav (K, I, H) (J, M, G)); rw [hc] at ag hF; have ai := qq ag; have aj := qq hF; have ab := qq ac; have aa := qq af; have av : IntKind.i64.wrap ((k : Int) - 1) = (k : Int) - 1 := by rw [IntKind.wrap_i64]; omega
   clear ag hc hF ac af; obtain ⟨W, c1, X, c3⟩ := aco D.out O ab.out; obtain ⟨d0, Z, Y, U⟩ := aco D.out F aa.out; by_cases z : N < 0
   ·have hall2 := qq (show ∀ i, (h : i + 1 < L.length) → i + 1 < k + 1 → aav (He.x (L[i]'(by omega))) (He.x L[i + 1]) < 0 from fun i h hi => by
     rcases Nat.lt_or_ge (i + 1) k with q | q
     ·exact ah.out i h q
     ·obtain rfl : i = k - 1 := by omega
      have e : k - 1 + 1 = k := by omega
      simp only [e]
      rw [ai.out]; exact z)
    have al : decide (0 ≤ N) = false := qg (by omega); have ak : ¬ 0 ≤ N := by omega
    clear z; go_wp2; go_region_held3 (fun A => A.cell? ⟨g, off + (k - 1) * 4, none⟩ = some (.int .u32 K) ∧ A.cell? ⟨g, off + (k - 1) * 4 + 1, none⟩ = some (.string I) ∧ A.cell? ⟨g, off + (k - 1) * 4 + 2, none⟩ = some (.string H) ∧ A.cell? ⟨g, off + (k - 1) * 4 + 3, none⟩ = some (.bool ad) ∧ A.cell? ⟨g, off + k * 4, none⟩ = some (.int .u32 J) ∧ A.cell? ⟨g, off + k * 4 + 1, none⟩ = some (.string M) ∧ A.cell? ⟨g, off + k * 4 + 2, none⟩ = some (.string G) ∧ A.cell? ⟨g, off + k * 4 + 3, none⟩ = some (.bool ae)) (first | exact ⟨W, c1, X, c3, d0, Z, Y, U⟩ | exact ⟨e0, e1, e2, e3, f0, f1, f2, f3⟩) ((go_at_call 50; (with_reducible refine (aj.out _).mono ?_); rintro e w1 ⟨rfl, E⟩; obtain ⟨e0, e1, e2, e3⟩ := aco (D.out.drew.pure E) O ab.out; obtain ⟨f0, f1, f2, f3⟩ := aco (D.out.drew.pure E) F aa.out; have hB3 := (aad hB).trans (E.mono hB.size); clear W c1 X c3 d0 Z Y U)); exact agd
   ·have hbad := qq (show aia aav He.x L = false by
     cases hr : aia aav He.x L with
     | false => rfl
     | true =>
      unfold aia at hr; have h := ahi.1 hr (k - 1) (by omega); have e : k - 1 + 1 = k := by omega
      simp only [e, qm] at h; rw [ai.out] at h
      exact jp h z)
    have al : decide (0 ≤ N) = true := qp (by omega); have ak : 0 ≤ N := by omega
    clear z; go_wp2; go_region_held3 (fun A => A.cell? ⟨g, off + (k - 1) * 4, none⟩ = some (.int .u32 K) ∧ A.cell? ⟨g, off + (k - 1) * 4 + 1, none⟩ = some (.string I) ∧ A.cell? ⟨g, off + (k - 1) * 4 + 2, none⟩ = some (.string H) ∧ A.cell? ⟨g, off + (k - 1) * 4 + 3, none⟩ = some (.bool ad) ∧ A.cell? ⟨g, off + k * 4, none⟩ = some (.int .u32 J) ∧ A.cell? ⟨g, off + k * 4 + 1, none⟩ = some (.string M) ∧ A.cell? ⟨g, off + k * 4 + 2, none⟩ = some (.string G) ∧ A.cell? ⟨g, off + k * 4 + 3, none⟩ = some (.bool ae)) (first | exact ⟨W, c1, X, c3, d0, Z, Y, U⟩ | exact ⟨e0, e1, e2, e3, f0, f1, f2, f3⟩) ((go_at_call 50; (with_reducible refine (aj.out _).mono ?_); rintro e w1 ⟨rfl, E⟩; obtain ⟨e0, e1, e2, e3⟩ := aco (D.out.drew.pure E) O ab.out; obtain ⟨f0, f1, f2, f3⟩ := aco (D.out.drew.pure E) F aa.out; have hB3 := (aad hB).trans (E.mono hB.size); clear W c1 X c3 d0 Z Y U)); exact ahn
  ·have hgood := qq (show aia aav He.x L = true by
    unfold aia; rw [ahi]; intro i h; rw [qm]
    exact ah.out i h (by omega))
   exact age
theorem aln {E A : Type} {c : A → A → Int} (D : IsCmp c) {k : E → A} {L : List E} (G : RisK c k L) {i j : Nat} (hi : i < L.length) (F : j < L.length) (H : i ≠ j) : k L[i] ≠ k L[j] := by
 intro e
 have h := List.pairwise_iff_getElem.1 G
 rcases Nat.lt_or_ge i j with q | q
 ·have := h i j hi F q
  rw [e, D.refl] at this; omega
 ·have := h j i F hi (by omega)
  rw [e, D.refl] at this; omega
theorem ajp {I A : Type} [DecidableEq A] {c : A → A → Int} (G : IsCmp c) {k : I → A} {L : List I} {x : A} (H : RisK c k L) {i : Nat} (hi : i < L.length) (F : k L[i] = x) : L.filter (fun a => decide (k a ≠ x)) = L.eraseIdx i := by
 have J : L = L.take i ++ L[i] :: L.drop (i + 1) := by rw [← List.drop_eq_getElem_cons hi, List.take_append_drop]
 rw [List.eraseIdx_eq_take_drop_succ]
 conv => lhs; rw [J]
 rw [List.filter_append, List.filter_cons_of_neg (by simp [F])]
 congr 1
 ·refine List.filter_eq_self.2 (fun a D => qp ?_)
  obtain ⟨j, E, rfl⟩ := List.getElem_of_mem D; rw [List.length_take] at E; rw [List.getElem_take, ← F]; exact aln G H (by omega) hi (by omega)
 ·refine List.filter_eq_self.2 (fun a D => qp ?_)
  obtain ⟨j, E, rfl⟩ := List.getElem_of_mem D; rw [List.length_drop] at E; rw [List.getElem_drop, ← F]; exact aln G H (by omega) hi (by omega)
theorem ann {A D : Type} (f : A → D) (L : List A) (i : Nat) (x : A) : (abj L i x).map f = abj (L.map f) i (f x) := by
 unfold abj; rw [List.map_append, List.map_cons, List.map_take, List.map_drop]
theorem atz {D E A : Type} (c : A → A → Int) (f : D → E) (k : E → A) (L : List D) (x : A) : lbK c k (L.map f) x = lbK c (fun a => k (f a)) L x := by
 unfold lbK
 induction L with
 | nil => rfl
 | cons a L ih =>
  rw [List.map_cons, List.takeWhile_cons, List.takeWhile_cons]; split
  ·rw [jn, jn, ih]
  ·rfl
theorem azq {qs : List Qu} (F : RisK abf Qu.name qs) {k : Nat} (E : k < qs.length) {n : ByteArray} (D : qs[k].name = n) (f : List Ms → List Ms) : amb qs n f = qs.set k { qs[k] with zw := f qs[k].zw } := by
 unfold amb
 apply List.ext_getElem (by simp)
 intro i A G
 rw [zq, List.getElem_set]
 rw [jf] at A
 by_cases e : k = i
 ·subst e
  rw [qw D, qw rfl]
 ·rw [qk e, qk (fun h => aln cmpB_ok F A E (fun h => e h.symm) (h.trans D.symm))]
theorem amj {qs : List QuT} (E : RisK abf QuT.name qs) {k : Nat} (D : k < qs.length) {n : ByteArray} (F : qs[k].name = n) (f : List Ms → List Ms) {v : Value} {L : List MsT} (A : L.map MsT.m = f (qs[k].zw.map MsT.m)) : amb (qs.map QuT.q) n f = (qs.set k { qs[k] with mv := v, zw := L }).map QuT.q := by
 have h := azq (qs := qs.map QuT.q) (ad6 (c := abf) (k := Qu.name) (g := QuT.q) |>.2 E) (k := k) (by simpa using D) (n := n) (by rw [zq]; exact F) f
 rw [h, List.map_set]
 congr 1
 rw [zq]
 unfold QuT.q
 dsimp only
 rw [A]
theorem at0 {A D : Type} (f : A → D) (L : List A) (i : Nat) : (L.eraseIdx i).map f = (L.map f).eraseIdx i := by
 rw [List.eraseIdx_eq_take_drop_succ, List.eraseIdx_eq_take_drop_succ, List.map_append, List.map_take, List.map_drop]
def at1 (d : Nat) : Prop := ∀ (w : World) (qb rb vb xb : Nat) (left dp : Int) (b : List UInt8) (k : Int) (ks : List ByteArray) (l : List V) (left2 : Int) (r : List UInt8), PR w qb rb vb left b false → qb < xb → Blk w xb [.int .u8 k, .int .u64 0, .string ⟨#[]⟩, .slice none 0 0, .slice none 0 0] → k = 168 ∨ k = 169 → dp + d = 6 → d ≤ 5 → 0 ≤ left → left ≤ 200 → Big b.length → rdM (rdP d) (k == 168) left b = some (ks, l, left2, r) →
 Calls prog 211 #[.pointer (some ⟨qb, 0, none⟩), .pointer (some ⟨xb, 0, none⟩), .int .i64 dp] w (avz w qb rb vb xb k (some (ks, l, left2, r)))
def apb (d : Nat) : Prop := ∀ (w : World) (qb rb vb : Nat) (left dp : Int) (b : List UInt8) (x : V) (l2 : Int) (r : List UInt8), PR w qb rb vb left b false → dp + d = 7 → d ≤ 6 → 0 ≤ left → left ≤ 200 → Big b.length → rdP d left b = some (x, l2, r) →
 Calls prog 200 #[.pointer (some ⟨qb, 0, none⟩), .int .i64 dp] w (avy w qb rb vb (some (x, l2, r)))
def Sw (w : World) (qb rb vb B : Nat) (x : V) (l2 : Int) (r : List UInt8) (wc : World) : Prop := ∃ t : VT, t.v = x ∧ Rd (fun i => w.heap.size < i) wc t ∧ Blk wc B (ac6 t) ∧ Blk wc w.heap.size [.int .u8 0, .int .u64 0, .string ⟨#[]⟩, .slice none 0 0, .slice none 0 0] ∧ PR wc qb rb vb l2 r false ∧ Upd (Two qb vb) w wc
theorem ano (d : Nat) (hM : ∀ d', d = d' + 1 → at1 d') : apb d := by
 intro w qb U K left dp b x l2 r h hd hd6 hl0 hl1 hL A
 have hq := h.lt
 have bi := h.vq
 have aw := h.setL (left - 1)
 have ah : Below (w.setCell ⟨qb, 1, none⟩ (.int .i64 (left - 1))).heap.size (w.setCell ⟨qb, 1, none⟩ (.int .i64 (left - 1))) ((w.setCell ⟨qb, 1, none⟩ (.int .i64 (left - 1))).alloc (.cells #[.int .u8 0, .int .u64 0, .string ⟨#[]⟩, .slice none 0 0, .slice none 0 0] 56)) := (qz _ _).alloc (qj _) _
 have a1 := Blk.newK (w.setCell ⟨qb, 1, none⟩ (.int .i64 (left - 1))) [.int .u8 0, .int .u64 0, .string ⟨#[]⟩, .slice none 0 0, .slice none 0 0] 56 w.heap.size (by simp)
 have h1 := aw.pure ah
 have u1 : Upd (Two qb K) w ((w.setCell ⟨qb, 1, none⟩ (.int .i64 (left - 1))).alloc (.cells #[.int .u8 0, .int .u64 0, .string ⟨#[]⟩, .slice none 0 0, .slice none 0 0] 56)) := (Upd.set (S := Two qb K) (p := ⟨qb, 1, none⟩) (Or.inl rfl) _).trans (Upd.of_below ah) (fun _ h _ => h)
 obtain ⟨c0, c1⟩ := h.q.a2; have z1 := h.q.frozen 1
 have d0 := h1.q.at 0 rfl
 rcases d with _ | d
 ·exact jp A (by unfold rdP; simp)
 have ay := qq (hM d rfl)
 clear hM
 unfold rdP at A
 obtain ⟨⟨k, X⟩, ad, A⟩ := aah A
 dsimp only at A
 by_cases aj : left - 1 < 0
 ·rw [qw aj] at A; cases A
 rw [qk aj] at A
 have bj : 1 ≤ left := by omega
 have hg := qq ad
 have bl : k < 256 := gN8 ad
 have bf : Big X.length := hL.mono (aks ad).2.1
 have bd : IntKind.u8.wrap (k : Int) = (k : Int) := by
  have e : IntKind.u8.wrap (k : Int) = (k : Int) % 256 := rfl; rw [e]; omega
 have bm : dp ≤ 6 := by omega
 have bh := qq A
 have bk : 0 ≤ left - 1 := by omega
 clear A ad aj
 go_enter func200, ntmps200
 go_upto_block 0 with (first | (go_at_call 169; (with_reducible refine (agy _ qb U K (left - 1) b 1 k 1 X h1 rfl (by unfold Wd; omega) hg.out hL).mono ?_); rintro e w1 ⟨rfl, p1, ak⟩; have a2 := a1.upd ak (by have := h.vq; unfold acu; omega); have u2 := u1.two (ak.only_two (qb := qb)); have ai := (qz w1.heap.size w1).alloc (qj _) (.cells #[.int .u8 k, .int .u64 0, .string ⟨#[]⟩, .slice none 0 0, .slice none 0 0] 56); have M := p1.pure ai; have a3 := a2.alloc (.cells #[.int .u8 k, .int .u64 0, .string ⟨#[]⟩, .slice none 0 0, .slice none 0 0] 56); have I := Blk.new w1 [.int .u8 k, .int .u64 0, .string ⟨#[]⟩, .slice none 0 0, .slice none 0 0] 56; have Z := u2.two (Upd.of_below ai); obtain ⟨e0, e1⟩ := M.q.a2; have f0 := I.at 0 rfl) | (go_at_call 201; (with_reducible refine (aih _ qb U K (left - 1) _ M).mono ?_); rintro e _ ⟨rfl, rfl⟩))
 have H := qq (show w.heap.size < w1.heap.size by have := a2.lt; omega)
 obtain ⟨B, hB⟩ := qx w1.heap.size
 rw [hB] at I H f0 ⊢
 generalize w1.alloc (.cells #[.int .u8 k, .int .u64 0, .string ⟨#[]⟩, .slice none 0 0, .slice none 0 0] 56) = W at M a3 I Z e0 e1 f0 ⊢
 clear hB ai p1 ak a2 u2 a1 u1 h1 aw ah c0 c1 z1 d0 hg bd h
 have N := qq (show qb < B by have := H.out; omega)
 have ab := qq bf; have ag := qq I.lt; have ac := qq hq
 go_cut [] from 35 to 76 (fun wc => Sw w qb U K B x l2 r wc)
 case first =>
  have A := bh.out; have e2 := I.frozen 1; have e3 := I.frozen 2; have f1 := I.at 1 rfl; have f2 := I.at 2 rfl; by_cases af : k = 240
  ·rw [qw af] at A
   simp only [jy, jm] at A; obtain ⟨rfl, rfl, rfl⟩ := A; subst af; go_wp2_with fail; go_meet; exact ⟨.mk 240 0 ⟨#[]⟩ (.slice none 0 0) (.slice none 0 0) [] [], rfl, Rd.leaf (by omega) (by omega) (by omega) (by omega), I, a3, M, Z⟩
  rw [qk af] at A; by_cases D : k = 8 ∨ k = 2
  ·rw [qw D] at A
   obtain ⟨⟨n, b2⟩, J, A⟩ := aah A; simp only [jy, jm] at A; obtain ⟨rfl, rfl, rfl⟩ := A; have z := qq J; have al := qq (aks J).1; clear J; rcases D with rfl | rfl
   all_goals
    go_wp2_with (go_at_call 169; (with_reducible refine (agy _ qb U K (left - 1) X 1 n 1 b2 M rfl (by unfold Wd; omega) z.out ab.out).mono ?_); rintro e Y ⟨rfl, O, E⟩; have F := I.upd E (fun e => by have := N.out; unfold acu at e; omega); have g1 := F.at 1 rfl; have y1 := F.frozen 1; have a4 := a3.upd E (fun e => by have := ac.out; unfold acu at e; omega)); go_meet; have G := Upd.set (S := fun i => i = B) (w := Y) (p := ⟨B, 1, none⟩) rfl (.int .u64 n); exact ⟨.mk _ n ⟨#[]⟩ (.slice none 0 0) (.slice none 0 0) [] [], rfl, Rd.leaf (by omega) (by have := al.out; omega) (by omega) (by omega), F.set 1 (.int .u64 n), a4.upd G (by have := H.out; omega), O.above G (fun i e => by have := N.out; omega), (Z.two (E.only_two (qb := qb))).trans G (fun i e hi => by have := H.out; omega)⟩
  rw [qk D] at A; by_cases D : k = 49 ∨ k = 50
  ·rw [qw D] at A
   obtain ⟨⟨n, b2⟩, J, A⟩ := aah A; simp only [jy, jm] at A; obtain ⟨rfl, rfl, rfl⟩ := A; have z := qq J; have al := qq (aks J).1; clear J; rcases D with rfl | rfl
   all_goals
    go_wp2_with (go_at_call 169; (with_reducible refine (agy _ qb U K (left - 1) X 8 n 8 b2 M rfl (by unfold Wd; omega) z.out ab.out).mono ?_); rintro e Y ⟨rfl, O, E⟩; have F := I.upd E (fun e => by have := N.out; unfold acu at e; omega); have g1 := F.at 1 rfl; have y1 := F.frozen 1; have a4 := a3.upd E (fun e => by have := ac.out; unfold acu at e; omega)); go_meet; have G := Upd.set (S := fun i => i = B) (w := Y) (p := ⟨B, 1, none⟩) rfl (.int .u64 n); exact ⟨.mk _ n ⟨#[]⟩ (.slice none 0 0) (.slice none 0 0) [] [], rfl, Rd.leaf (by omega) (by have := al.out; omega) (by omega) (by omega), F.set 1 (.int .u64 n), a4.upd G (by have := H.out; omega), O.above G (fun i e => by have := N.out; omega), (Z.two (E.only_two (qb := qb))).trans G (fun i e hi => by have := H.out; omega)⟩
  rw [qk D] at A; by_cases D : k = 149
  ·rw [qw D] at A
   obtain ⟨⟨s, b2⟩, J, A⟩ := aah A; simp only [jy, jm] at A; obtain ⟨rfl, rfl, rfl⟩ := A; have z := qq J; clear J; subst D; go_wp2_with (go_at_call 197; (with_reducible refine (ai4 _ qb U K (left - 1) X 2 4096 2 4096 s b2 M rfl rfl (by omega) (by omega) z.out ab.out).mono ?_); rintro e Y ⟨rfl, O, E⟩; have F := I.upd E (fun e => by have := N.out; unfold acu at e; omega); have g1 := F.at 2 rfl; have y1 := F.frozen 2; have a4 := a3.upd E (fun e => by have := ac.out; unfold acu at e; omega)); go_meet; have G := Upd.set (S := fun i => i = B) (w := Y) (p := ⟨B, 2, none⟩) rfl (.string s); exact ⟨.mk 149 0 s (.slice none 0 0) (.slice none 0 0) [] [], rfl, Rd.leaf (by omega) (by omega) (by omega) (by omega), F.set 2 (.string s), a4.upd G (by have := H.out; omega), O.above G (fun i e => by have := N.out; omega), (Z.two (E.only_two (qb := qb))).trans G (fun i e hi => by have := H.out; omega)⟩
  rw [qk D] at A; by_cases D : k = 160
  ·rw [qw D] at A
   obtain ⟨⟨s, b2⟩, J, A⟩ := aah A; simp only [jy, jm] at A; obtain ⟨rfl, rfl, rfl⟩ := A; have z := qq J; clear J; subst D; go_wp2_with (go_at_call 197; (with_reducible refine (ai4 _ qb U K (left - 1) X 4 4096 4 4096 s b2 M rfl rfl (by omega) (by omega) z.out ab.out).mono ?_); rintro e Y ⟨rfl, O, E⟩; have F := I.upd E (fun e => by have := N.out; unfold acu at e; omega); have g1 := F.at 2 rfl; have y1 := F.frozen 2; have a4 := a3.upd E (fun e => by have := ac.out; unfold acu at e; omega)); go_meet; have G := Upd.set (S := fun i => i = B) (w := Y) (p := ⟨B, 2, none⟩) rfl (.string s); exact ⟨.mk 160 0 s (.slice none 0 0) (.slice none 0 0) [] [], rfl, Rd.leaf (by omega) (by omega) (by omega) (by omega), F.set 2 (.string s), a4.upd G (by have := H.out; omega), O.above G (fun i e => by have := N.out; omega), (Z.two (E.only_two (qb := qb))).trans G (fun i e hi => by have := H.out; omega)⟩
  rw [qk D] at A; by_cases D : k = 168 ∨ k = 169
  ·rw [qw D] at A
   have A : (rdM (rdP d) (k == 168) (left - 1) X).bind (fun (ae : List ByteArray × List V × Int × List UInt8) => some (V.mk k 0 ByteArray.empty ae.1 ae.2.1, ae.2.2.1, ae.2.2.2)) = some (x, l2, r) := (av0 _ _ _ _ _).symm.trans A; obtain ⟨⟨ks, l, az, b4⟩, hm, A⟩ := aah A; simp only [jy, jm] at A; obtain ⟨rfl, rfl, rfl⟩ := A
   have aq := ay.out W qb U K B (left - 1) dp X k ks l az b4 M N.out I (by omega) (by omega) (by omega) (by omega) (by omega) ab.out (by
    rw [← hm]; rcases D with rfl | rfl <;> rfl)
   have bc := qq aq; clear aq hm; rcases D with rfl | rfl
   all_goals
    go_wp2_with (go_at_call 211; refine bc.out.mono ?_; rintro e Y ⟨kv, lv, L, rfl, F, ar, au, ao, ax, O, E⟩; have bb := qq ao; clear ao; have ba := qq ax; clear ax); go_meet; refine ⟨.mk _ 0 ⟨#[]⟩ kv lv ks L, by rw [VT.v_eq, ← bb.out]; rfl, .mk ((ar.slc ac7)) (fun _ b hb => by have := ar.ge hb; have := ag.out; have := H.out; omega) (au.slc aak) (fun _ b hb => by have := au.ge hb; have := ag.out; have := H.out; omega) (fun y hy => (ba.out y hy).weaken (fun i _ hi => by have := ag.out; have := H.out; omega)) (by show (0 : Int) ≤ 0; omega) (by show (0 : Int) < 18446744073709551616; omega) (by simp [VT.k]) (by simp [VT.k]), F, a3.upd E (fun e => by have := H.out; have := ac.out; unfold aop at e; omega), O, Z.trans E (fun i e hi => by have := H.out; unfold aop at e; unfold Two; omega)⟩
  rw [qk D] at A; cases A
 case rest =>
 obtain ⟨t, av, hR, an, am, p9, u9⟩ := hcut
 have bg := qq hR
 obtain ⟨tk, tn, ts, ka, kc, la, lc, aa, tl, rfl, -, -, -, -⟩ := hR.open
 have a0 := qq av
 clear av hR e0 e1 f0 I a3 M Z
 have an : Blk wc B [.int .u8 tk, .int .u64 tn, .string ts, .slice ka aa.length kc, .slice la tl.length lc] := an
 have e0 := p9.q.at 0 rfl
 obtain ⟨f0, f1, f2, f3, f4⟩ := an.a5; obtain ⟨g0, g1, g2, g3, g4⟩ := am.a5; obtain ⟨y0, y1, y2, y3, y4⟩ := am.f5
 go_wp2_with (go_at_call 201; (with_reducible refine (aih _ qb U K l2 _ p9).mono ?_); rintro e _ ⟨rfl, rfl⟩)
 have aF := am.fresh5 (.int .u8 tk) (.int .u64 tn) (.string ts) (.slice ka aa.length kc) (.slice la tl.length lc)
 have hF := Upd.at5 wc w.heap.size (.int .u8 tk) (.int .u64 tn) (.string ts) (.slice ka aa.length kc) (.slice la tl.length lc)
 obtain ⟨k0, k1, k2, k3, k4⟩ := aF.a5
 refine bodyPost_ret (by simp [results, Tryz.results200, go_sem, k0, k1, k2, k3, k4]; rfl) rfl ?_
 exact ⟨.mk tk tn ts (.slice ka aa.length kc) (.slice la tl.length lc) aa tl, rfl, a0.out, (bg.out.upd hF (fun i hi e => by omega)).weaken (fun i _ hi => Nat.le_of_lt hi), p9.fresh5 hq (.int .u8 tk) (.int .u64 tn) (.string ts) (.slice ka aa.length kc) (.slice la tl.length lc), u9.fresh5 (qj _) (.int .u8 tk) (.int .u64 tn) (.string ts) (.slice ka aa.length kc) (.slice la tl.length lc)⟩
end Go.Proofs.YtgnaifhmcllnlaaGreatDoor
