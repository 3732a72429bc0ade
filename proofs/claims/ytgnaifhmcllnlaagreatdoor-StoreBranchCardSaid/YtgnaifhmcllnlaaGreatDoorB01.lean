/- Maps that a call owns or was handed, known as functions from keys to elements ('MapG'), and the laws at their operations. Conditions: a store asks that there is room. (Texts joined.) -/
import Derived.Test.YtgnaifhmcllnlaaGreatDoorB00
import Derived.Lib.ConvBytes
import Derived.Deep.CutBlock
import Derived.Shelf.Unicode.DecodeAny
import Derived.Lib.RuneCountTail
set_option maxRecDepth 100000
set_option maxHeartbeats 4000000
set_option linter.unusedSimpArgs false
set_option linter.unusedVariables false
namespace Go.Proofs.YtgnaifhmcllnlaaGreatDoor
open Go.RowKit Tryz
def Wd (n : Int) : Prop := n = 1 ∨ n = 2 ∨ n = 4 ∨ n = 8
theorem aig (n : Int) (w : World) (h : Wd n) : Calls prog 191 #[.int .i64 n] w fun e w' => e = .returned (.bool true) ∧ w = w' := by
 rcases h with rfl | rfl | rfl | rfl
 all_goals
  go_enter func191, ntmps191; go_wp2; go_ret; exact ⟨rfl, rfl⟩
theorem ak6 (w : World) (a : Option Addr) (n c : Nat) : (binOp .eql 189 (.slice a n c) (.slice none 0 0)).run prog w = .ok (.bool a.isNone) w := Lib.run_eql_slice_nil w _ _ a n c 0 0 underlying189
theorem ak7 (w : World) (v : Value) (L : List UInt8) (h : Slc aax 1 w v L) (hL : Big L.length) :
 Calls prog 195 #[v] w fun e w' => ∃ r, e = .returned r ∧ Own w.heap.size 5 1 aax w' r L ∧ Below w.heap.size w w' := by
 obtain ⟨a, cap, rfl, -⟩ := h.len
 cases a with
 | none =>
  have hnil := fun w => ak6 w none 0 cap
  have hn : L.length = 0 := by
   rcases h with ⟨_, _, h1, _, h2⟩ | ⟨_, _, _, h1, _⟩
   ·rw [h2]; rfl
   ·simp at h1
  have hl0 := List.length_eq_zero_iff.1 hn; subst hl0; go_enter func195, ntmps195; go_wp2; go_ret; exact ⟨_, rfl, Own.nil, qz _ _⟩
 | some a =>
  have hnil := fun w => ak6 w (some a) L.length cap
  have hB0 := (qz w.heap.size w).alloc (qj _) (.cells #[] 5); have hS := h.pure hB0; have hO := Own.made0 (enc := aax) (m := 1) w 5 (qj w.heap.size); go_enter func195, ntmps195; go_wp2_with (at_builtin; refine aaj (base := w.heap.size) rfl (.tmp 5) (.tmp 6) 189 5 rfl abx aaa aay _ [] rfl hO _ L rfl hS (by have := hL.le; simp; unfold maxLen; omega) (by have := hL.le; simp; omega) (by simp) ?_; intro v' w1 hO1 hgr hfr hsh); go_ret; exact ⟨_, rfl, hO1, hB0.grown hgr (by simp) (fun j e => by cases e; exact qj _)⟩
theorem asr : ∀ (k n : Nat), be (k + 1) n = UInt8.ofNat (n / 256 ^ k % 256) :: be k n
 | 0, n => by unfold be be; simp
 | k + 1, n => by
  have h := asr k (n / 256); rw [show be (k + 1 + 1) n = be (k + 1) (n / 256) ++ [UInt8.ofNat (n % 256)] from rfl, h, show be (k + 1) n = be k (n / 256) ++ [UInt8.ofNat (n % 256)] from rfl]; rw [Nat.div_div_eq_div_mul, show 256 * 256 ^ k = 256 ^ (k + 1) by rw [Nat.pow_succ, Nat.mul_comm]]; rfl
theorem ba8 (wd k n : Nat) (h : k < wd) (x : UInt8) (hx : x = UInt8.ofNat (n / 256 ^ k % 256)) : (List.replicate (wd - k) 0 ++ be k n).set (wd - 1 - k) x = List.replicate (wd - (k + 1)) 0 ++ be (k + 1) n := by
 rw [asr, hx, show wd - k = wd - (k + 1) + 1 by omega, List.replicate_succ', List.append_assoc, List.set_append_right _ _ (by simp; omega)]
 simp [show wd - 1 - k - (wd - (k + 1)) = 0 by omega]
theorem ak8 (w : World) (n : Int) (wd : Nat) (hn : 0 ≤ n) (hw : Wd wd) :
 Calls prog 193 #[.int .u64 n, .int .i64 wd] w fun e w' => ∃ r, e = .returned r ∧ Own w.heap.size 5 1 aax w' r (be wd n.toNat) ∧ Below w.heap.size w w' := by
 have hwd : 1 ≤ wd ∧ wd ≤ 8 := by unfold Wd at hw; omega
 obtain ⟨hw1, hw8⟩ := hwd
 clear hw
 go_enter func193, ntmps193
 go_wp2_with (at_make; refine asq rfl _ _ 189 5 rfl (0 : UInt8) elem_byZ aaa .i64 .i64 _ _ wd rfl rfl rfl rfl (by omega) (by unfold maxLen; omega) (qj _) ?_; intro w1 hO1 hgr)
 have hB1 := (qz w.heap.size w).grown hgr (qj _) (fun j e => by cases e)
 go_loopw [11] (fun s11 wr => ∃ k : Nat, k ≤ wd ∧ s11 = .int .i64 k ∧ Own w.heap.size 5 1 aax wr (.slice (some ⟨w.heap.size, 0, none⟩) wd wd) (List.replicate (wd - k) 0 ++ be k n.toNat) ∧ Below w.heap.size w wr) (fun s11 _ => wd - (intOf s11).toNat)
 case atStart => exact ⟨0, by omega, rfl, by unfold be; simpa using hO1, hB1⟩
 case round =>
  obtain ⟨k, hk, rfl, hO, hB⟩ := hrel; by_cases hlt : k < wd
  ·have h0 : (0 : Int) ≤ (k : Int) := by omega
   have h1 : (k : Int) < (wd : Int) := by omega
   have hf := hO.frozen (wd - 1 - k); have hlen : (List.replicate (wd - k) (0 : UInt8) ++ be k n.toNat).length = wd := by rw [jz, List.length_replicate, aao]; omega
   have hc := hO.cell aaa (wd - 1 - k) (by rw [hlen]; omega) 0 _ rfl; rw [Nat.mul_one, Nat.add_zero] at hc
   have hx : n / 2 ^ (8 * k) % 256 = ((UInt8.ofNat (n.toNat / 256 ^ k % 256)).toNat : Int) := by
    obtain ⟨m, rfl⟩ := Int.eq_ofNat_of_zero_le hn; rw [UInt8.toNat_ofNat', Nat.mod_mod, Int.toNat_natCast, show (256 : Nat) = 2 ^ 8 by rfl, ← Nat.pow_mul]
    push_cast; rfl
   have hS := hO.set aaa (wd - 1 - k) (by rw [hlen]; omega) 0 (.int .u8 (n / 2 ^ (8 * k) % 256)) (UInt8.ofNat (n.toNat / 256 ^ k % 256)) (by omega) (by rw [hx]; rfl); rw [ba8 wd k n.toNat hlt _ rfl, Nat.mul_one, Nat.add_zero] at hS; obtain ⟨u, hu⟩ : ∃ u, wr.cell? ⟨w.heap.size, wd - 1 - k, none⟩ = some u := ⟨_, hc⟩
   clear hc hlen hx; have hB2 := Below.setCell (p := ⟨w.heap.size, wd - 1 - k, none⟩) hB (qj _) (.int .u8 (n / 2 ^ (8 * k) % 256)); go_wp2; go_roundw
   case rel => exact ⟨k + 1, by omega, by go_num, hS, hB2⟩
   case measure => simp [intOf]; omega
  ·obtain rfl : k = wd := by omega
   go_wp2; go_ret; exact ⟨_, rfl, by simpa using hO, hB⟩
theorem ak9 (w : World) (u v : Value) (L M : List UInt8) (hu : Slc aax 1 w u L) (hv : Slc aax 1 w v M) (hL : Big (L.length + M.length)) :
 Calls prog 192 #[u, v] w fun e w' => ∃ r, e = .returned r ∧ Own w.heap.size 5 1 aax w' r (L ++ M) ∧ Below w.heap.size w w' := by
 obtain ⟨a, ac, rfl, -⟩ := hu.len
 obtain ⟨b, bc, rfl, -⟩ := hv.len
 have hsum : (L.length : Int) + (M.length : Int) = ((L.length + M.length : Nat) : Int) := by push_cast; rfl
 have hbl : IntKind.i64.wrap ((L.length : Int) + (M.length : Int)) = ((L.length + M.length : Nat) : Int) := by rw [IntWalk.i64_in _ (by have := hL.le; omega)]; exact hsum
 clear hsum
 go_enter func192, ntmps192
 go_wp2_with (first | (at_make; refine aq3 (base := w.heap.size) rfl _ _ rfl .i64 .i64 _ (L.length + M.length) rfl rfl (by first | rfl | omega) (by have := hL.le; omega) (qj _) ?_; intro w1 hO1 hgr1; have hB1 := (qz w.heap.size w).grown hgr1 (qj _) (fun j e => by cases e); have hu1 := hu.pure hB1) | (at_builtin; refine aaj (base := w.heap.size) rfl (.tmp 10) (.tmp 11) 189 5 rfl abx aaa aay _ [] rfl hO1 _ L rfl hu1 (by have := hL.le; simp; unfold maxLen; omega) (by have := hL.le; simp; omega) hB1.size ?_; intro v2 w2 hO2 hgr2 hfr2 hsh2; have hB2 := hB1.grown hgr2 hB1.size (fun j e => by cases e; exact qj _); have hv2 := hv.pure hB2; simp only [List.nil_append] at hO2) | (at_builtin; refine aaj (base := w.heap.size) rfl (.tmp 12) (.tmp 13) 189 5 rfl abx aaa aay v2 L rfl hO2 _ M rfl hv2 (by have := hL.le; unfold maxLen; omega) (by have := hL.le; omega) hB2.size ?_; intro v3 w3 hO3 hgr3 hfr3 hsh3; have hB3 := hB2.grown hgr3 hB2.size (fun j e => hO2.ge e)))
 go_ret
 exact ⟨_, rfl, hO3, hB3⟩
theorem acg (w : World) (v : Value) (L : List UInt8) (n : Int) (wd : Nat) (hv : Slc aax 1 w v L) (hn : 0 ≤ n) (hw : Wd wd) (hL : Big (L.length + 8)) :
 Calls prog 163 #[v, .int .u64 n, .int .i64 wd] w fun e w' => ∃ r, e = .returned r ∧ Own w.heap.size 5 1 aax w' r (L ++ be wd n.toNat) ∧ Below w.heap.size w w' := by
 have hb := qq (aao wd n.toNat)
 have hw8 : wd ≤ 8 := by unfold Wd at hw; omega
 go_enter func163, ntmps163
 go_wp2_with (first | (go_at_call 191; (with_reducible refine (aig _ _ hw).mono ?_); rintro e w1 ⟨rfl, rfl⟩) | (go_at_call 193; (with_reducible refine (ak8 _ n wd hn hw).mono ?_); rintro e w1 ⟨r1, rfl, hO1, hB1⟩; have hv1 := hv.pure hB1) | (go_at_call 192; (with_reducible refine (ak9 _ _ _ L (be wd n.toNat) hv1 (hO1.slc aaa) (by rw [hb.out]; exact hL.mono (by omega))).mono ?_); rintro e w2 ⟨r2, rfl, hO2, hB2⟩))
 go_ret
 exact ⟨_, rfl, hO2.rebase (fun i hi => jk hB1.size (hO2.ge hi)), hB1.trans (hB2.mono hB1.size)⟩
theorem adz (w : World) (v : Value) (L : List UInt8) (s : ByteArray) (wd : Nat) (hv : Slc aax 1 w v L) (hw : wd = 1 ∨ wd = 2 ∨ wd = 4) (hs : s.size < 256 ^ wd) (hL : Big (L.length + s.size + 8)) :
 Calls prog 164 #[v, .string s, .int .i64 wd] w fun e w' => ∃ r, e = .returned (.tuple #[r, .int .i64 0]) ∧ Own w.heap.size 5 1 aax w' r (L ++ (be wd s.size ++ s.data.toList)) ∧ Below w.heap.size w w' := by
 have hb := qq (aao wd s.size)
 have hbl := qq (acj s)
 have hw2 : Wd wd := by unfold Wd; omega
 have hs0 := hs
 have h0 : (0 : Int) ≤ (s.size : Int) := by omega
 have h4 : s.size < 4294967296 := by rcases hw with rfl | rfl | rfl <;> omega
 have hcv : IntKind.u64.wrap (s.size : Int) = (s.size : Int) := by unfold IntKind.wrap; simp [IntKind.signed, IntKind.bits]; omega
 have hq : (s.size : Int) / 2 ^ (8 * wd) = 0 := by
  have : s.size / 2 ^ (8 * wd) = 0 := Nat.div_eq_of_lt (by rw [Nat.pow_mul]; exact hs)
  exact_mod_cast this
 have hne : ((wd : Int) == 8) = false := ju.2 (by omega)
 have hwd1 : 1 ≤ wd := by omega
 have hwd8 : wd ≤ 8 := by omega
 clear hw
 go_enter func164, ntmps164
 go_wp2_with (first | (go_at_call 191; (with_reducible refine (aig _ _ hw2).mono ?_); rintro e w1 ⟨rfl, rfl⟩) | (go_at_call 193; (with_reducible refine (ak8 _ (s.size : Int) wd h0 hw2).mono ?_); rintro e w1 ⟨r1, rfl, hO1, hB1⟩; rw [Int.toNat_natCast] at hO1) | (at_builtin; refine aon (base := w.heap.size) rfl (.tmp 27) (.tmp 28) rfl r1 (be wd s.size) rfl hO1 s rfl (by rw [hb.out]; have := hL.le; omega) hB1.size ?_; intro r2 w2 hO2 hgr2; have hB2 := hB1.grown hgr2 hB1.size (fun j e => hO1.ge e); have hv2 := hv.pure hB2) | (go_at_call 192; (with_reducible refine (ak9 _ _ _ L (be wd s.size ++ s.data.toList) hv2 (hO2.slc aaa) (by rw [jz, hb.out, hbl.out]; exact hL.mono (by omega))).mono ?_); rintro e w3 ⟨r3, rfl, hO3, hB3⟩))
 go_ret2
 exact ⟨_, rfl, hO3.rebase (fun i hi => jk hB2.size (hO3.ge hi)), hB2.trans (hB3.mono hB2.size)⟩
def RdS (w : World) (vb : Nat) (b : List UInt8) (bad : Bool) : Prop :=
 ∃ bv, Blk w vb [bv, .bool true, .bool bad] ∧ Slc aax 1 w bv b ∧ ∀ k, bv.ownBlock = some k → k < vb
def RdP (w : World) (rb vb : Nat) : Prop := Blk w rb [.pointer (some ⟨vb, 0, none⟩)] ∧ vb < rb
def acu (vb : Nat) (k : Nat) : Prop := k = vb
theorem RdS.pure {w w' : World} {vb : Nat} {b : List UInt8} {bad : Bool} (h : RdS w vb b bad) (hB : Below w.heap.size w w') : RdS w' vb b bad := by
 obtain ⟨bv, h1, h2, h3⟩ := h
 exact ⟨bv, h1.pure hB, h2.pure hB, h3⟩
theorem RdS.lt {w : World} {vb : Nat} {b : List UInt8} {bad : Bool} (h : RdS w vb b bad) : vb < w.heap.size := by
 obtain ⟨bv, h1, _⟩ := h; exact h1.lt
theorem RdP.pure {w w' : World} {rb vb : Nat} (h : RdP w rb vb) (hB : Below w.heap.size w w') : RdP w' rb vb := ⟨h.1.pure hB, h.2⟩
theorem RdP.upd {w w' : World} {rb vb : Nat} (h : RdP w rb vb) (hu : Upd (acu vb) w w') : RdP w' rb vb := ⟨h.1.upd hu (fun e => Nat.ne_of_gt h.2 e), h.2⟩
theorem ass (w : World) (vb : Nat) (b : List UInt8) (bad : Bool) (h : RdS w vb b bad) :
 Calls prog 198 #[.pointer (some ⟨vb, 0, none⟩)] w fun e w' => e = .returned (.int .i64 b.length) ∧ w = w' := by
 obtain ⟨bv, h1, h2, h3⟩ := h
 obtain ⟨a, c, rfl, -⟩ := h2.len
 have c0 := h1.at 0 rfl
 clear h1 h3
 go_enter func198, ntmps198
 go_wp2
 go_ret
 exact ⟨rfl, rfl⟩
theorem avx (w : World) (vb : Nat) (b : List UInt8) (bad : Bool) (h : RdS w vb b bad) :
 Calls prog 202 #[.pointer (some ⟨vb, 0, none⟩)] w fun e w' => e = .returned (.bool bad) ∧ w = w' := by
 obtain ⟨bv, h1, h2, h3⟩ := h
 have c1 := h1.at 1 rfl
 have c2 := h1.at 2 rfl
 clear h1 h3 h2
 cases bad
 all_goals
  go_enter func202, ntmps202; go_wp2; go_ret; exact ⟨rfl, rfl⟩
theorem aeh (w : World) (rb vb : Nat) (b : List UInt8) (bad : Bool) (hp : RdP w rb vb) (h : RdS w vb b bad) :
 Calls prog 171 #[.pointer (some ⟨rb, 0, none⟩)] w fun e w' => e = .returned (.int .i64 b.length) ∧ w = w' := by
 have c0 := hp.1.at 0 rfl
 go_enter func171, ntmps171
 go_wp2_with (go_at_call 198; (with_reducible refine (ass _ vb b bad h).mono ?_); rintro e w1 ⟨rfl, rfl⟩)
 go_ret
 exact ⟨rfl, rfl⟩
theorem aei (w : World) (rb vb : Nat) (b : List UInt8) (bad : Bool) (hp : RdP w rb vb) (h : RdS w vb b bad) :
 Calls prog 173 #[.pointer (some ⟨rb, 0, none⟩)] w fun e w' => e = .returned (.bool bad) ∧ w = w' := by
 have c0 := hp.1.at 0 rfl
 go_enter func173, ntmps173
 go_wp2_with (go_at_call 202; (with_reducible refine (avx _ vb b bad h).mono ?_); rintro e w1 ⟨rfl, rfl⟩)
 go_ret
 exact ⟨rfl, rfl⟩
theorem Slc.nil0 {α : Type} {enc : α → List Value} {m : Nat} {w : World} : Slc enc m w (.slice none 0 0) [] :=   .inl ⟨Option.none, 0, rfl, by unfold maxLen; omega, rfl⟩
theorem ae3 (w : World) (rb vb : Nat) (b : List UInt8) (bad : Bool) (hp : RdP w rb vb) (h : RdS w vb b bad) :
 Calls prog 196 #[.pointer (some ⟨rb, 0, none⟩)] w fun e w' => e = .returned (.tuple #[]) ∧ RdS w' vb [] true ∧ Upd (acu vb) w w' := by
 obtain ⟨bv, h1, h2, h3⟩ := h
 have c0 := hp.1.at 0 rfl
 have d0 := h1.at 0 rfl
 have d2 := h1.at 2 rfl
 have z0 := h1.frozen 0
 have z2 := h1.frozen 2
 go_enter func196, ntmps196
 go_wp2
 go_region
 all_goals
  go_end0; refine ⟨rfl, ⟨_, (h1.set 0 (.slice none 0 0)).set 2 (.bool true), Slc.nil0, fun k e => by cases e⟩, ?_⟩; exact ((Upd.set (p := ⟨vb, 0, none⟩) (S := acu vb) rfl _).trans (Upd.set (p := ⟨vb, 2, none⟩) (S := acu vb) rfl _) (fun _ h _ => h)).drew
theorem al5 (w : World) (rb vb : Nat) (b : List UInt8) (n : Nat) (hp : RdP w rb vb) (h : RdS w vb b false) (hn : n ≤ b.length) (hL : Big b.length) :
 Calls prog 168 #[.pointer (some ⟨rb, 0, none⟩), .int .i64 n] w fun e w' => ∃ r, e = .returned r ∧ Own w.heap.size 5 1 aax w' r (b.take n) ∧ RdS w' vb (b.drop n) false ∧ Upd (acu vb) w w' := by
 have hs := h
 obtain ⟨bv, h1, h2, h3⟩ := h
 obtain ⟨a, cap, rfl, -⟩ := h2.len
 have c0 := hp.1.at 0 rfl
 have d0 := h1.at 0 rfl
 have hn0 : decide ((n : Int) < 0) = false := qg (by omega)
 have hn1 : (0 : Int) ≤ (n : Int) := by omega
 have hn2 : (n : Int) ≤ (b.length : Int) := by omega
 have hn3 : decide ((b.length : Int) < (n : Int)) = false := qg (by omega)
 have hn4 : decide (b.length < n) = false := qg (by omega)
 go_enter func168, ntmps168
 go_upto_region 5 with (first | (go_at_call 173; (with_reducible refine (aei _ rb vb b false hp hs).mono ?_); rintro e w1 ⟨rfl, rfl⟩) | (go_at_call 171; (with_reducible refine (aeh _ rb vb b false hp hs).mono ?_); rintro e w1 ⟨rfl, rfl⟩) | (refine am1 (x := .tmp 26) (y := .tmp 27) (u := n) rfl rfl abx rfl h2 rfl rfl hn ?_; intro v1 hv1) | (go_at_call 195; (with_reducible refine (ak7 _ v1 (b.take n) hv1 (hL.mono (List.length_take_le' _ _))).mono ?_); rintro e w2 ⟨r2, rfl, hO2, hB2⟩))
 have hB2' := hB2
 have hp2 := hp.pure hB2
 have hk2 := h1.pure hB2
 have c02 := hp2.1.at 0 rfl
 have d02 := hk2.at 0 rfl
 have z02 := hk2.frozen 0
 clear c0 d0
 have hpart := (h2.part hn (qj _)).pure hB2
 rw [js] at hpart
 unfold sliced at hpart
 have hown : ∀ v : Value, Own w.heap.size 5 1 aax (w2.setCell ⟨vb, 0, none⟩ v).drew r2 (b.take n) := fun v => (hO2.other ⟨vb, 0, none⟩ v (fun k hk e => by have := hO2.ge hk; have := hs.lt; simp only at e; omega)).drew
 have hfin : ∀ v : Value, Slc aax 1 w2 v (b.drop n) → (∀ k, v.ownBlock = some k → k < vb) → RdS (w2.setCell ⟨vb, 0, none⟩ v).drew vb (b.drop n) false := fun v hv hne => ⟨v, hk2.set 0 v, (hv.other ⟨vb, 0, none⟩ v (fun k hk => Nat.ne_of_lt (hne k hk))), hne⟩
 have hupd : ∀ v : Value, Upd (acu vb) w (w2.setCell ⟨vb, 0, none⟩ v).drew := fun v => ((Upd.of_below hB2).trans (Upd.set (S := acu vb) (p := ⟨vb, 0, none⟩) rfl v) (fun i h _ => h)).drew
 by_cases hcap : cap = n
 ·rw [qw hcap] at hpart
  subst hcap; rw [Nat.sub_self] at hpart; go_region
  all_goals
   go_wp2; go_ret; exact ⟨_, rfl, hown _, hfin _ hpart (fun k hk => h3 k (by cases a with | none => exact hk | some x => exact hk)), hupd _⟩
 ·rw [qk hcap, Nat.mul_one] at hpart
  go_region
  all_goals
   go_wp2; go_ret; refine ⟨_, rfl, hown _, hfin _ ?_ ?_, hupd _⟩
   ·exact hpart
   ·intro k hk
    refine h3 k ?_
    cases a with
    | none => exact hk
    | some x => rw [← hk]; simp [Value.ownBlock, Addr.add]; split <;> rfl
theorem al6 (x : Nat) (hx : x < 2^64) : (BitVec.ofInt IntKind.u64.bits (x : Int)).toNat = x := by
 rw [BitVec.toNat_ofInt]; show ((x : Int) % ((2^64 : Nat) : Int)).toNat = x
 omega
theorem wrap_u64 (x : Int) (h0 : 0 ≤ x) (h : x < 18446744073709551616) : IntKind.u64.wrap x = x := by
 have e : IntKind.u64.wrap x = x % 18446744073709551616 := rfl
 rw [e]; omega
theorem ax8 (x y : Nat) (hx : x < 2^64) (hy : y < 2^64) : bits .or .u64 (x : Int) (y : Int) = ((x ||| y : Nat) : Int) := by
 have h : x ||| y < 2^64 := Nat.or_lt_two_pow hx hy
 unfold bits
 simp only [BitVec.toNat_or, al6 x hx, al6 y hy]
 exact wrap_u64 _ (by omega) (by omega)
theorem ay1 (a c : Nat) (ha : a < 256 ^ 7) (hc : c < 256) : bits .or .u64 (IntKind.u64.wrap ((a : Int) * 256)) (IntKind.u64.wrap (c : Int)) = ((256 * a + c : Nat) : Int) := by
 rw [wrap_u64 _ (by omega) (by omega), wrap_u64 _ (by omega) (by omega)]
 have : (a : Int) * 256 = ((256 * a : Nat) : Int) := by omega
 rw [this, ax8 _ _ (by omega) (by omega)]
 have := Nat.two_pow_add_eq_or_of_lt (i := 8) (b := c) (by omega) a
 rw [show 256 * a ||| c = 256 * a + c from this.symm]
theorem ast (w : World) (rb vb : Nat) (b : List UInt8) (bad : Bool) (n : Nat) (hp : RdP w rb vb) (hs : RdS w vb b bad) (hn : bad = true ∨ b.length < n) :
 Calls prog 168 #[.pointer (some ⟨rb, 0, none⟩), .int .i64 n] w fun e w' => e = .returned (.slice none 0 0) ∧ RdS w' vb [] true ∧ Upd (acu vb) w w' := by
 have hn0 : decide ((n : Int) < 0) = false := qg (by omega)
 have hn1 : (0 : Int) ≤ (n : Int) := by omega
 cases bad
 ·have hn2 : b.length < n := by simpa using hn
  have hn3 : decide ((b.length : Int) < (n : Int)) = true := qp (by omega); have hn4 : decide (b.length < n) = true := qp (by omega); clear hn; go_enter func168, ntmps168; go_wp2_with (first | (go_at_call 173; (with_reducible refine (aei _ rb vb b false hp hs).mono ?_); rintro e w1 ⟨rfl, rfl⟩) | (go_at_call 171; (with_reducible refine (aeh _ rb vb b false hp hs).mono ?_); rintro e w1 ⟨rfl, rfl⟩) | (go_at_call 196; (with_reducible refine (ae3 _ rb vb b false hp hs).mono ?_); rintro e w2 ⟨rfl, hr2, hu2⟩)); go_ret; exact ⟨rfl, hr2, hu2⟩
 ·clear hn
  go_enter func168, ntmps168; go_wp2_with (first | (go_at_call 173; (with_reducible refine (aei _ rb vb b true hp hs).mono ?_); rintro e w1 ⟨rfl, rfl⟩) | (go_at_call 196; (with_reducible refine (ae3 _ rb vb b true hp hs).mono ?_); rintro e w2 ⟨rfl, hr2, hu2⟩)); go_ret; exact ⟨rfl, hr2, hu2⟩
theorem asu (w : World) (rb vb : Nat) (b : List UInt8) (bad : Bool) (wd : Nat) (hp : RdP w rb vb) (hs : RdS w vb b bad) (hw : Wd wd) (hn : bad = true ∨ b.length < wd) :
 Calls prog 169 #[.pointer (some ⟨rb, 0, none⟩), .int .i64 wd] w fun e w' => e = .returned (.int .u64 0) ∧ RdS w' vb [] true ∧ Upd (acu vb) w w' := by
 go_enter func169, ntmps169
 go_wp2_with (first | (go_at_call 191; (with_reducible refine (aig _ _ hw).mono ?_); rintro e w1 ⟨rfl, rfl⟩) | (go_at_call 168; (with_reducible refine (ast _ rb vb b bad wd hp hs hn).mono ?_); rintro e w2 ⟨rfl, hr2, hu2⟩))
 go_loopw [5, 17] (fun s5 s17 wr => s5 = .int .u64 0 ∧ s17 = .int .i64 0 ∧ wr = w2) (fun _ _ _ => 0)
 case atStart => exact ⟨rfl, rfl, rfl⟩
 case round =>
  obtain ⟨rfl, rfl, rfl⟩ := hrel; go_wp2; go_ret; exact ⟨rfl, hr2, hu2⟩
theorem ai2 (w : World) (rb vb : Nat) (b : List UInt8) (wd n : Nat) (r : List UInt8) (hp : RdP w rb vb) (hs : RdS w vb b false) (hw : Wd wd) (hg : gN wd b = some (n, r)) (hL : Big b.length) :
 Calls prog 169 #[.pointer (some ⟨rb, 0, none⟩), .int .i64 wd] w fun e w' => e = .returned (.int .u64 n) ∧ RdS w' vb r false ∧ Upd (acu vb) w w' := by
 have hgl : wd ≤ b.length ∧ n = aoc (b.take wd) ∧ r = b.drop wd := by
  unfold gN at hg; split at hg
  ·simp only [jy, jm] at hg
   exact ⟨by assumption, hg.1.symm, hg.2.symm⟩
  ·simp at hg
 obtain ⟨hl, rfl, rfl⟩ := hgl
 clear hg
 have hwd : wd ≤ 8 := by unfold Wd at hw; omega
 have hlt := qq (show (b.take wd).length = wd by rw [List.length_take]; omega)
 obtain ⟨bs, hbs⟩ := zz (b.take wd)
 rw [hbs]
 have hbl := qq (show bs.length = wd by rw [← hbs]; exact hlt.out)
 have hbs2 := qq hbs
 clear hlt hbs
 go_enter func169, ntmps169
 go_wp2_with (first | (go_at_call 191; (with_reducible refine (aig _ _ hw).mono ?_); rintro e w1 ⟨rfl, rfl⟩) | (go_at_call 168; (with_reducible refine (al5 _ rb vb b wd hp hs hl hL).mono ?_); rintro e w2 ⟨r2, rfl, hO2, hr2, hu2⟩; rw [hbs2.out] at hO2; obtain ⟨ra, rc, hra⟩ := aap hO2; rw [hbl.out] at hra; subst hra))
 go_loopw [5, 17] (fun s5 s17 wr => ∃ k : Nat, k ≤ wd ∧ s17 = .int .i64 k ∧ s5 = .int .u64 (aoc (bs.take k)) ∧ wr = w2) (fun _ s17 _ => wd - (intOf s17).toNat)
 case atStart => exact ⟨0, by omega, rfl, rfl, rfl⟩
 case round =>
  obtain ⟨k, hk, rfl, rfl, rfl⟩ := hrel; by_cases hlt : k < wd
  ·have hkb : k < bs.length := by have := hbl.out; omega
   obtain ⟨g, rfl, -⟩ := abr hO2 hkb; have hc := hO2.cell aaa k hkb 0 _ rfl; have h0 : (0 : Int) ≤ (k : Int) := by omega
   have h1 : (k : Int) < (wd : Int) := by omega
   rw [Nat.mul_one, Nat.add_zero] at hc
   have hb1 : aoc (bs.take k) < 256 ^ 7 := by
    have h := asf (bs.take k); rw [List.length_take] at h; exact jg h (Nat.pow_le_pow_right (by omega) (by omega))
   have hob := qq (ay1 (aoc (bs.take k)) bs[k].toNat hb1 bs[k].toNat_lt); have hsn := qq (show aoc (bs.take (k + 1)) = 256 * aoc (bs.take k) + bs[k].toNat by rw [jx hkb, agv]); clear hb1; go_wp2; go_roundw
   case rel => exact ⟨k + 1, by omega, by go_num, by rw [hob.out, hsn.out], trivial⟩
   case measure => simp [intOf]; omega
  ·obtain rfl : k = wd := by omega
   go_wp2; go_ret; have e : bs.take k = bs := by have := hbl.out; rw [List.take_of_length_le (by omega)]
   exact ⟨by rw [e]; rfl, hr2, hu2⟩
theorem wrap_i64 (x : Int) (h0 : 0 ≤ x) (h : x < 9223372036854775808) : IntKind.i64.wrap x = x := IntWalk.i64_in _ (by omega)
theorem Upd.only2 {vb : Nat} {a b c : World} (h : Upd (acu vb) a b) (k : Upd (acu vb) b c) : Upd (acu vb) a c := h.trans k (fun _ h _ => h)
theorem aks {w n : Nat} {b r : List UInt8} (h : gN w b = some (n, r)) : n < 256 ^ w ∧ r.length ≤ b.length ∧ w ≤ b.length := by
 obtain ⟨e, hn⟩ := ahy h
 have := congrArg List.length e
 rw [jz, aao] at this
 exact ⟨hn, by omega, by omega⟩
theorem Wd4 {wd : Nat} (h : wd = 1 ∨ wd = 2 ∨ wd = 4) : Wd wd ∧ ((wd : Int) == 8) = false ∧ 256 ^ wd ≤ 4294967296 := by
 refine ⟨by unfold Wd; omega, ju.2 (by omega), ?_⟩
 rcases h with rfl | rfl | rfl <;> omega
theorem ap3 (w : World) (rb vb : Nat) (b : List UInt8) (wd most : Nat) (s : ByteArray) (r : List UInt8) (hp : RdP w rb vb) (hs : RdS w vb b false) (hw : wd = 1 ∨ wd = 2 ∨ wd = 4) (hg : gT wd most b = some (s, r)) (hL : Big b.length) (hM : Big most) :
 Calls prog 197 #[.pointer (some ⟨rb, 0, none⟩), .int .i64 wd, .int .i64 most] w fun e w' => e = .returned (.string s) ∧ RdS w' vb r false ∧ Upd (acu vb) w w' := by
 obtain ⟨hw8, hne, hpw⟩ := Wd4 hw
 clear hw
 obtain ⟨⟨n, b1⟩, hn, hg⟩ := aah hg
 obtain ⟨hlt, hle, -⟩ := aks hn
 have hL1 : Big b1.length := hL.mono hle
 dsimp only at hg
 split at hg
 rotate_left 1
 ·simp at hg
 rename_i hc
 obtain ⟨hc1, hc2⟩ := hc
 simp only [jy, jm] at hg
 obtain ⟨rfl, rfl⟩ := hg
 have hn' := qq hn
 have w1 : IntKind.u64.wrap (most : Int) = (most : Int) := wrap_u64 _ (by omega) (by have := hM.le; omega)
 have w2 : IntKind.u64.wrap (b1.length : Int) = (b1.length : Int) := wrap_u64 _ (by omega) (by have := hL1.le; omega)
 have w3 : IntKind.i64.wrap (n : Int) = (n : Int) := wrap_i64 _ (by omega) (by omega)
 have d0 : decide ((most : Int) < 0) = false := qg (by omega)
 have d1 : decide (most < n) = false := qg (by omega)
 have d2 : decide (b1.length < n) = false := qg (by omega)
 have hconv := fun (w : World) (v : Value) (h : Slc aax 1 w v (b1.take n)) => aif w v _ h
 clear hn hlt hle hpw
 go_enter func197, ntmps197
 go_wp2_with (first | (go_at_call 169; (with_reducible refine (ai2 _ rb vb b wd n b1 hp hs hw8 hn'.out hL).mono ?_); rintro e w5 ⟨rfl, hr5, hu5⟩; have hp5 := hp.upd hu5) | (go_at_call 173; (with_reducible refine (aei _ rb vb b1 false hp5 hr5).mono ?_); rintro e w6 ⟨rfl, rfl⟩) | (go_at_call 171; (with_reducible refine (aeh _ rb vb b1 false hp5 hr5).mono ?_); rintro e w6 ⟨rfl, rfl⟩) | (go_at_call 168; (with_reducible refine (al5 _ rb vb b1 n hp5 hr5 hc2 hL1).mono ?_); rintro e w7 ⟨r7, rfl, hO7, hr7, hu7⟩; have k7 := hconv w7 r7 (hO7.slc aaa)))
 go_ret
 exact ⟨rfl, hr7, hu5.only2 hu7⟩
theorem asv (w : World) (rb vb : Nat) (b : List UInt8) (bad : Bool) (wd most : Nat) (hp : RdP w rb vb) (hs : RdS w vb b bad) (hw : wd = 1 ∨ wd = 2 ∨ wd = 4) (hg : bad = true ∨ gT wd most b = none) (hL : Big b.length) (hM : Big most) :
 Calls prog 197 #[.pointer (some ⟨rb, 0, none⟩), .int .i64 wd, .int .i64 most] w fun e w' => e = .returned (.string ⟨#[]⟩) ∧ RdS w' vb [] true ∧ Upd (acu vb) w w' := by
 obtain ⟨hw8, hne, hpw⟩ := Wd4 hw
 clear hw
 by_cases hno : bad = true ∨ b.length < wd
 ·clear hg
  go_enter func197, ntmps197; go_wp2_with (first | (go_at_call 169; (with_reducible refine (asu _ rb vb b bad wd hp hs hw8 hno).mono ?_); rintro e w5 ⟨rfl, hr5, hu5⟩; have hp5 := hp.upd hu5) | (go_at_call 173; (with_reducible refine (aei _ rb vb [] true hp5 hr5).mono ?_); rintro e w6 ⟨rfl, rfl⟩) | (go_at_call 196; (with_reducible refine (ae3 _ rb vb [] true hp5 hr5).mono ?_); rintro e w7 ⟨rfl, hr7, hu7⟩)); go_ret; exact ⟨rfl, hr7, hu5.only2 hu7⟩
 ·have hb : bad = false := by cases bad with | false => rfl | true => exact jp (Or.inl rfl) hno
  subst hb; have hl : wd ≤ b.length := by have : ¬ b.length < wd := fun h => hno (.inr h); omega
  have hg' : gT wd most b = none := by simpa using hg
  clear hg hno; obtain ⟨n, b1, hn⟩ : ∃ n b1, gN wd b = some (n, b1) := ⟨_, _, by unfold gN; rw [qw hl]⟩
  obtain ⟨hlt, hle, -⟩ := aks hn; have hL1 : Big b1.length := hL.mono hle
  have hbig : ¬ (n ≤ most ∧ n ≤ b1.length) := fun hc => by
   unfold gT at hg'; rw [hn, Option.bind_some] at hg'; dsimp only at hg'; rw [qw hc] at hg'; cases hg'
  clear hg'; have hn' := qq hn; have w1 : IntKind.u64.wrap (most : Int) = (most : Int) := wrap_u64 _ (by omega) (by have := hM.le; omega); have w2 : IntKind.u64.wrap (b1.length : Int) = (b1.length : Int) := wrap_u64 _ (by omega) (by have := hL1.le; omega); have d0 : decide ((most : Int) < 0) = false := qg (by omega); by_cases h1 : most < n
  ·have d1 : decide (most < n) = true := qp h1
   clear hn hlt hle hpw hl hbig; go_enter func197, ntmps197; go_wp2_with (first | (go_at_call 169; (with_reducible refine (ai2 _ rb vb b wd n b1 hp hs hw8 hn'.out hL).mono ?_); rintro e w5 ⟨rfl, hr5, hu5⟩; have hp5 := hp.upd hu5) | (go_at_call 173; (with_reducible refine (aei _ rb vb b1 false hp5 hr5).mono ?_); rintro e w6 ⟨rfl, rfl⟩) | (go_at_call 196; (with_reducible refine (ae3 _ rb vb b1 false hp5 hr5).mono ?_); rintro e w7 ⟨rfl, hr7, hu7⟩)); go_ret; exact ⟨rfl, hr7, hu5.only2 hu7⟩
  ·have d1 : decide (most < n) = false := qg h1
   have d2 : decide (b1.length < n) = true := qp (by omega); clear hn hlt hle hpw hl hbig; go_enter func197, ntmps197; go_wp2_with (first | (go_at_call 169; (with_reducible refine (ai2 _ rb vb b wd n b1 hp hs hw8 hn'.out hL).mono ?_); rintro e w5 ⟨rfl, hr5, hu5⟩; have hp5 := hp.upd hu5) | (go_at_call 173; (with_reducible refine (aei _ rb vb b1 false hp5 hr5).mono ?_); rintro e w6 ⟨rfl, rfl⟩) | (go_at_call 171; (with_reducible refine (aeh _ rb vb b1 false hp5 hr5).mono ?_); rintro e w6 ⟨rfl, rfl⟩) | (go_at_call 196; (with_reducible refine (ae3 _ rb vb b1 false hp5 hr5).mono ?_); rintro e w7 ⟨rfl, hr7, hu7⟩)); go_ret; exact ⟨rfl, hr7, hu5.only2 hu7⟩
theorem am2 (w : World) (v : Value) (L : List UInt8) (h : Slc aax 1 w v L) (hL : Big L.length) :
 Calls prog 167 #[v] w fun e w' => ∃ rb vb, e = .returned (.pointer (some ⟨rb, 0, none⟩)) ∧ RdP w' rb vb ∧ RdS w' vb L false ∧ w.heap.size ≤ vb ∧ w.heap.size ≤ rb ∧ Below w.heap.size w w' := by
 go_enter func167, ntmps167
 go_wp2_with (go_at_call 195; (with_reducible refine (ak7 _ v L h hL).mono ?_); rintro e w1 ⟨r1, rfl, hO1, hB1⟩; obtain ⟨ra, rc, rfl⟩ := aap hO1)
 go_ret
 have k1 := Blk.new w1 [.slice ra L.length rc, .bool true, .bool false] 228
 have hB2 := hB1.alloc hB1.size (.cells #[.slice ra L.length rc, .bool true, .bool false] 228)
 refine ⟨_, _, rfl, ⟨by have := Blk.new (w1.alloc (.cells #[.slice ra L.length rc, .bool true, .bool false] 228)) [.pointer (some ⟨w1.heap.size, 0, none⟩)] 230; simpa using this, ?_⟩, ⟨_, k1.alloc _, ((hO1.alloc _).alloc _).slc aaa, fun k hk => hO1.lt hk⟩, hB1.size, ?_, hB2.alloc hB2.size _⟩
 ·simp
 ·have := hB1.size; simp; omega
def DrS (w : World) (rb : Nat) (b : List UInt8) (bad : Bool) : Prop :=
 ∃ bv, Blk w rb [bv, .bool bad] ∧ Slc aax 1 w bv b ∧ ∀ k, bv.ownBlock = some k → k < rb
theorem DrS.pure {w w' : World} {vb : Nat} {b : List UInt8} {bad : Bool} (h : DrS w vb b bad) (hB : Below w.heap.size w w') : DrS w' vb b bad := by
 obtain ⟨bv, h1, h2, h3⟩ := h
 exact ⟨bv, h1.pure hB, h2.pure hB, h3⟩
theorem DrS.cells {w : World} {rb : Nat} {b : List UInt8} {bad : Bool} (h : DrS w rb b bad) : ∃ a c, w.cell? ⟨rb, 0, none⟩ = some (.slice a b.length c) ∧ w.cell? ⟨rb, 1, none⟩ = some (.bool bad) := by
 obtain ⟨bv, h1, h2, h3⟩ := h
 obtain ⟨a, cap, rfl, -⟩ := h2.len
 exact ⟨a, cap, h1.at 0 rfl, h1.at 1 rfl⟩
def abv (s : ByteArray) : List Value := [.string s]
theorem ac7 (p : ByteArray) : (abv p).length = 1 := rfl
theorem ala (p : ByteArray) : ∀ u ∈ abv p, u.oneCell' = true := by simp [abv, Value.oneCell']
inductive VT where
 | mk (k n : Int) (s : ByteArray) (kv lv : Value) (ks : List ByteArray) (l : List VT)
namespace VT
open Tryz
def k : VT → Int | .mk k _ _ _ _ _ _ => k
def n : VT → Int | .mk _ n _ _ _ _ _ => n
def s : VT → ByteArray | .mk _ _ s _ _ _ _ => s
def kv : VT → Value | .mk _ _ _ kv _ _ _ => kv
def lv : VT → Value | .mk _ _ _ _ lv _ _ => lv
def ks : VT → List ByteArray | .mk _ _ _ _ _ ks _ => ks
def l : VT → List VT | .mk _ _ _ _ _ _ l => l
theorem ind {P : VT → Prop} (h : ∀ t : VT, (∀ x ∈ t.l, P x) → P t) : ∀ t, P t
 | .mk k n s kv lv ks l => h (.mk k n s kv lv ks l) (fun t (ht : t ∈ l) => ind h t)
mutual
def v : VT → V
 | .mk k n s _ _ ks l => .mk k n s ks (vL l)
def vL : List VT → List V
 | [] => []
 | x :: xs => v x :: vL xs
end
theorem ax9 : ∀ l : List VT, vL l = l.map v
 | [] => by unfold vL; rfl
 | x :: xs => by unfold vL; rw [ax9 xs]; rfl
theorem v_eq (t : VT) : t.v = .mk t.k t.n t.s t.ks (t.l.map v) := by
 cases t with
 | mk k n s kv lv ks l => unfold v; rw [ax9]; rfl
end VT
def ac6 (t : VT) : List Value := [.int .u8 t.k, .int .u64 t.n, .string t.s, t.kv, t.lv]
theorem aak (t : VT) : (ac6 t).length = 5 := rfl
inductive Rd (P : Nat → Prop) (w : World) : VT → Prop
 | mk {t : VT} : Slc abv 1 w t.kv t.ks → (t.ks ≠ [] → ∀ b, t.kv.ownBlock = some b → P b) → Slc ac6 5 w t.lv t.l → (t.l ≠ [] → ∀ b, t.lv.ownBlock = some b → P b) →
  (∀ x ∈ t.l, Rd P w x) → 0 ≤ t.n → t.n < 18446744073709551616 → 0 ≤ t.k → t.k < 256 → Rd P w t
section
variable {P Q : Nat → Prop} {w w' : World} {t : VT}
theorem Rd.kv (h : Rd P w t) : Slc abv 1 w t.kv t.ks := by cases h; assumption
theorem Rd.kb (h : Rd P w t) : t.ks ≠ [] → ∀ b, t.kv.ownBlock = some b → P b := by cases h; assumption
theorem Rd.lv (h : Rd P w t) : Slc ac6 5 w t.lv t.l := by cases h; assumption
theorem Rd.lb (h : Rd P w t) : t.l ≠ [] → ∀ b, t.lv.ownBlock = some b → P b := by cases h; assumption
theorem Rd.sub (h : Rd P w t) : ∀ x ∈ t.l, Rd P w x := by cases h; assumption
theorem Rd.n0 (h : Rd P w t) : 0 ≤ t.n := by cases h; assumption
theorem Rd.n1 (h : Rd P w t) : t.n < 18446744073709551616 := by cases h; assumption
theorem Rd.k0 (h : Rd P w t) : 0 ≤ t.k := by cases h; assumption
theorem Rd.k1 (h : Rd P w t) : t.k < 256 := by cases h; assumption
theorem Rd.wf (h : Rd P w t) : t.v.Wf := by
 induction t using VT.ind with
 | h t ih =>
  rw [VT.v_eq]
  exact .mk h.n0 h.n1 h.k0 h.k1 (fun x hx => by
   obtain ⟨y, hy, rfl⟩ := jv.1 hx
   exact ih y hy (h.sub y hy))
theorem aez {α : Type} {enc : α → List Value} {m : Nat} {v : Value} {L : List α} (hm : ∀ x, (enc x).length = m) (hp : 0 < m) (h : Slc enc m w v L) (hL : L ≠ []) : ∀ b, v.ownBlock = some b → b < w.heap.size := by
 intro b hb
 rcases h with ⟨_, _, _, _, rfl⟩ | ⟨g, off, cap, rfl, h1, h2, h3⟩
 ·exact jp rfl hL
 ·have hlen : 0 < L.length := List.length_pos_iff.2 hL
  have : 0 < (enc L[0]).length := by rw [hm]; exact hp
  have := h3 0 hlen 0 _ (List.getElem?_eq_getElem this); have := World.block_lt_of_cell? w _ this; have e : g = b := by simpa [Value.ownBlock] using hb
  subst e; exact this
theorem Slc.updL {α : Type} {enc : α → List Value} {m : Nat} {S : Nat → Prop} {v : Value} {L : List α} (h : Slc enc m w v L) (hu : Upd S w w') (hS : L ≠ [] → ∀ b, v.ownBlock = some b → ¬ S b) : Slc enc m w' v L := by
 by_cases hL : L = []
 ·subst hL
  rcases h with ⟨a, cap, e, hc, _⟩ | ⟨g, off, cap, e, h1, h2, h3⟩
  ·exact .inl ⟨a, cap, e, hc, rfl⟩
  ·exact .inl ⟨_, cap, e, h2, rfl⟩
 ·exact h.upd hu (hS hL)
theorem Rd.upd {S : Nat → Prop} (h : Rd P w t) (hu : Upd S w w') (hS : ∀ b, P b → ¬ S b) : Rd P w' t := by
 induction t using VT.ind with
 | h t ih => exact .mk (h.kv.updL hu (fun e b hb => hS b (h.kb e b hb))) h.kb (h.lv.updL hu (fun e b hb => hS b (h.lb e b hb))) h.lb (fun x hx => ih x hx (h.sub x hx)) h.n0 h.n1 h.k0 h.k1
theorem Rd.weaken (h : Rd P w t) (hQ : ∀ b, b < w.heap.size → P b → Q b) : Rd Q w t := by
 induction t using VT.ind with
 | h t ih => exact .mk h.kv (fun e b hb => hQ b (aez ac7 (by omega) h.kv e b hb) (h.kb e b hb)) h.lv (fun e b hb => hQ b (aez aak (by omega) h.lv e b hb) (h.lb e b hb)) (fun x hx => ih x hx (h.sub x hx)) h.n0 h.n1 h.k0 h.k1
theorem Rd.pure (h : Rd P w t) (hB : Below w.heap.size w w') : Rd P w' t := by
 induction t using VT.ind with
 | h t ih => exact .mk (h.kv.pure hB) h.kb (h.lv.pure hB) h.lb (fun x hx => ih x hx (h.sub x hx)) h.n0 h.n1 h.k0 h.k1
theorem Rd.lt (h : Rd P w t) : Rd (fun b => P b ∧ b < w.heap.size) w t := h.weaken (fun b h1 h2 => ⟨h2, h1⟩)
end
theorem Slc.addrB {α : Type} {enc : α → List Value} {m : Nat} {w : World} {a : Option Addr} {n cap : Nat} {L : List α} (h : Slc enc m w (.slice a n cap) L) {k : Nat} (hk : k < L.length) : ∃ g off, a = some ⟨g, off, none⟩ := by
 rcases h with ⟨_, _, _, _, h0⟩ | ⟨g, off, cap', hv, _⟩
 ·rw [h0] at hk; simp at hk
 ·simp only [Value.slice.injEq] at hv; exact ⟨g, off, hv.1⟩
theorem aoo {w : World} {g off n cap k : Nat} {L : List VT} (h : Slc ac6 5 w (.slice (some ⟨g, off, none⟩) n cap) L) (hk : k < L.length) :
 w.cell? ⟨g, off + k * 5, none⟩ = some (.int .u8 L[k].k) ∧ w.cell? ⟨g, off + k * 5 + 1, none⟩ = some (.int .u64 L[k].n) ∧ w.cell? ⟨g, off + k * 5 + 2, none⟩ = some (.string L[k].s) ∧ w.cell? ⟨g, off + k * 5 + 3, none⟩ = some L[k].kv ∧ w.cell? ⟨g, off + k * 5 + 4, none⟩ = some L[k].lv :=
 ⟨h.get k hk 0 _ rfl, h.get k hk 1 _ rfl, h.get k hk 2 _ rfl, h.get k hk 3 _ rfl, h.get k hk 4 _ rfl⟩
def VT.arg (t : VT) : Value := .agg #[.int .u8 t.k, .int .u64 t.n, .string t.s, t.kv, t.lv]
theorem VT.arg_mk (k n : Int) (s : ByteArray) (kv lv : Value) (ks : List ByteArray) (l : List VT) : (VT.mk k n s kv lv ks l).arg = .agg #[.int .u8 k, .int .u64 n, .string s, kv, lv] := rfl
theorem ae4 {P : Nat → Prop} {w : World} {g off n cap : Nat} {L : List VT} (h : Slc ac6 5 w (.slice (some ⟨g, off, none⟩) n cap) L) {i : Nat} (hi : i < L.length) (hr : Rd P w L[i]) :
 ∃ (k n : Int) (s : ByteArray) (ka : Option Addr) (kl kc : Nat) (la : Option Addr) (ll lc : Nat) (ks : List ByteArray) (l : List VT), L[i] = .mk k n s (.slice ka kl kc) (.slice la ll lc) ks l ∧
  w.cell? ⟨g, off + i * 5, none⟩ = some (.int .u8 k) ∧ w.cell? ⟨g, off + i * 5 + 1, none⟩ = some (.int .u64 n) ∧ w.cell? ⟨g, off + i * 5 + 2, none⟩ = some (.string s) ∧ w.cell? ⟨g, off + i * 5 + 3, none⟩ = some (.slice ka kl kc) ∧ w.cell? ⟨g, off + i * 5 + 4, none⟩ = some (.slice la ll lc) := by
 obtain ⟨c0, c1, c2, c3, c4⟩ := aoo h hi
 obtain ⟨x, hx⟩ := zz (L[i])
 rw [hx] at hr c0 c1 c2 c3 c4 ⊢
 obtain ⟨k, n, s, kv, lv, ks, l⟩ := x
 obtain ⟨ka, kc, hk, -⟩ := hr.kv.len
 obtain ⟨la, lc, hl, -⟩ := hr.lv.len
 have hk' : kv = .slice ka ks.length kc := hk
 have hl' : lv = .slice la l.length lc := hl
 subst hk' hl'
 exact ⟨_, _, _, _, _, _, _, _, _, _, _, rfl, c0, c1, c2, c3, c4⟩
theorem Rd.open {P : Nat → Prop} {w : World} {t : VT} (h : Rd P w t) : ∃ (k n : Int) (s : ByteArray) (ka : Option Addr) (kc : Nat) (la : Option Addr) (lc : Nat) (ks : List ByteArray) (l : List VT), t = .mk k n s (.slice ka ks.length kc) (.slice la l.length lc) ks l ∧
 Slc abv 1 w (.slice ka ks.length kc) ks ∧ Slc ac6 5 w (.slice la l.length lc) l ∧ (ks.length : Int) ≤ 9223372036854775807 ∧ (l.length : Int) ≤ 9223372036854775807 := by
 have h1 := h.kv; have h2 := h.lv
 obtain ⟨k, n, s, kv, lv, ks, l⟩ := t
 obtain ⟨ka, kc, hk, mk⟩ := h1.len
 obtain ⟨la, lc, hl, ml⟩ := h2.len
 unfold maxLen at mk ml
 have hk' : kv = .slice ka ks.length kc := hk
 have hl' : lv = .slice la l.length lc := hl
 subst hk' hl'
 exact ⟨_, _, _, _, _, _, _, _, _, rfl, h1, h2, by have : ks.length ≤ 9223372036854775807 := mk; omega, by have : l.length ≤ 9223372036854775807 := ml; omega⟩
open Tryz
section
variable {P : Program} {ops : Array Oper} {o : Oper} {a : Act} {w : World}
theorem ay2 {K : Act → World → Prop} {Q : Exit → Act → World → Prop} {r : Result Next} (h : o.upon P a K (fun e a w => e = .normal ∧ K a w) r) : o.upon P a K Q r := by
 cases r with
 | ok n w' =>
  cases n with
  | enter f args =>
   refine Calls.mono (R := _) h ?_; intro e w'' hr
   cases e with
   | returned v => exact hr
   | panicked chain => exact jp hr.1 (by simp)
   | outgrown => obtain ⟨_, _, h1, _⟩ := hr; exact jp h1 (by simp)
  | _ => first | exact h | exact h.elim
 | halt x w' =>
  cases x with
  | panic v => exact jp h.1 (by simp)
  | _ => first | exact h | exact h.elim
theorem abe {K : Act → World → Prop} {Q : Exit → Act → World → Prop} {Z : Prop} (hg : o.guard = none) (h : wpList P ops (fun e a w => e = .normal ∧ K a w) [o] a w) :
 if Region.wanted o (yielded ops a.tmps) = true then Oper.wp P o a w K Q else Z := by
 have hw : Region.wanted o (yielded ops a.tmps) = true := by simp [Region.wanted, hg]
 rw [qw hw]
 unfold wpList at h
 rw [qw hw] at h
 have e : wpList P ops (fun e a w => e = .normal ∧ K a w) [] = K := by funext a w; exact propext ⟨And.right, fun h => ⟨rfl, h⟩⟩
 rw [e] at h
 rcases h with h | ⟨_, a', w', h, _⟩
 ·exact ay2 h
 ·exact jp h (by simp)
end
theorem ai3 (f : Int → List UInt8 → Option (V × Int × List UInt8)) (m : Bool) (hf : ∀ left b x l' r', f left b = some (x, l', r') → 0 ≤ l' ∧ l' ≤ left) :
 ∀ (n : Nat) (left : Int) (b : List UInt8) (ks : List ByteArray) (l : List V) (l' : Int) (r : List UInt8), abk f m n left b = some (ks, l, l', r) → 0 ≤ left → 0 ≤ l' ∧ l' ≤ left
 | 0, left, b, ks, l, l', r, h, h0 => by
  unfold abk at h; simp only [jy, jm] at h; obtain ⟨-, -, rfl, -⟩ := h; omega
 | n + 1, left, b, ks, l, l', r, h, h0 => by
  unfold abk at h; obtain ⟨⟨key, b1⟩, h1, h⟩ := aah h; obtain ⟨⟨x, l1, b2⟩, h2, h⟩ := aah h; obtain ⟨⟨ks2, ls2, l2, b3⟩, h3, h⟩ := aah h; simp only [jy, jm] at h; obtain ⟨-, -, rfl, -⟩ := h; have a := hf _ _ _ _ _ h2; have b := ai3 f m hf n _ _ _ _ _ _ h3 a.1; omega
theorem ap4 : ∀ (d : Nat) (left : Int) (b : List UInt8) (v : V) (l' : Int) (r : List UInt8), rdP d left b = some (v, l', r) → 0 ≤ l' ∧ l' ≤ left
 | 0, left, b, v, l', r, h => by unfold rdP at h; simp at h
 | d + 1, left, b, v, l', r, h => by
  unfold rdP at h; obtain ⟨⟨k, b1⟩, h1, h⟩ := aah h; dsimp only at h; split at h
  ·cases h
  rename_i hl; split at h
  ·simp only [jy, jm] at h; obtain ⟨-, rfl, -⟩ := h; omega
  split at h
  ·obtain ⟨⟨n, b2⟩, h2, h⟩ := aah h
   simp only [jy, jm] at h; obtain ⟨-, rfl, -⟩ := h; omega
  split at h
  ·obtain ⟨⟨n, b2⟩, h2, h⟩ := aah h
   simp only [jy, jm] at h; obtain ⟨-, rfl, -⟩ := h; omega
  split at h
  ·obtain ⟨⟨n, b2⟩, h2, h⟩ := aah h
   simp only [jy, jm] at h; obtain ⟨-, rfl, -⟩ := h; omega
  split at h
  ·obtain ⟨⟨n, b2⟩, h2, h⟩ := aah h
   simp only [jy, jm] at h; obtain ⟨-, rfl, -⟩ := h; omega
  split at h
  ·obtain ⟨⟨n, b2⟩, h2, h⟩ := aah h
   obtain ⟨⟨n', b3⟩, h3, h⟩ := aah h; dsimp only at h; split at h
   ·obtain ⟨⟨ks, ls, l2, b4⟩, h4, h⟩ := aah h
    dsimp only at h; split at h
    ·simp only [jy, jm] at h; obtain ⟨-, rfl, -⟩ := h
     have := ai3 _ _ (fun left b x l' r' h => ap4 d left b x l' r' h) _ _ _ _ _ _ _ h4 (by omega); omega
    ·cases h
   ·cases h
  ·cases h
theorem asw {d : Nat} {left : Int} {b : List UInt8} {v : V} {l' : Int} {r : List UInt8} (h : rdP d left b = some (v, l', r)) : r.length ≤ b.length := by
 have := (aog d left b v l' r h).1
 rw [this, jz]; omega
theorem bco {w most : Nat} {b r : List UInt8} {s : ByteArray} (h : gT w most b = some (s, r)) : r.length ≤ b.length := by
 have := (apw h).1
 rw [this]; simp only [jz]; omega
def PR (w : World) (qb rb vb : Nat) (left : Int) (b : List UInt8) (bad : Bool) : Prop :=
 Blk w qb [.pointer (some ⟨rb, 0, none⟩), .int .i64 left] ∧ RdP w rb vb ∧ RdS w vb b bad ∧ rb < qb
def Two (qb vb : Nat) (k : Nat) : Prop := k = qb ∨ k = vb
section
variable {S : Nat → Prop} {w w' : World} {qb rb vb : Nat} {left : Int} {b : List UInt8} {bad : Bool}
theorem alb {P : Prop} (h : P := by
 obtain ⟨bv, h1, h2, h3⟩ := h
 exact ⟨bv, h1.upd hu (fun e => by have := hS _ e; omega), h2.upd hu (fun k hk e => by have := hS _ e; have := h3 k hk; omega), h3⟩) : P := h
theorem RdS.above (h : RdS w vb b bad) (hu : Upd S w w') (hS : ∀ k, S k → vb < k) : RdS w' vb b bad := by
 exact alb
theorem PR.q (h : PR w qb rb vb left b bad) : Blk w qb [.pointer (some ⟨rb, 0, none⟩), .int .i64 left] := h.1
theorem PR.p (h : PR w qb rb vb left b bad) : RdP w rb vb := h.2.1
theorem PR.s (h : PR w qb rb vb left b bad) : RdS w vb b bad := h.2.2.1
theorem PR.vq (h : PR w qb rb vb left b bad) : vb < qb := Nat.lt_trans h.2.1.2 h.2.2.2
theorem PR.lt (h : PR w qb rb vb left b bad) : qb < w.heap.size := h.1.lt
theorem PR.above (h : PR w qb rb vb left b bad) (hu : Upd S w w') (hS : ∀ k, S k → qb < k) : PR w' qb rb vb left b bad :=
 ⟨h.1.upd hu (fun e => by have := hS _ e; omega), ⟨h.2.1.1.upd hu (fun e => by have := hS _ e; have := h.2.2.2; omega), h.2.1.2⟩, h.2.2.1.above hu (fun k hk => by have := hS _ hk; have := h.vq; omega), h.2.2.2⟩
theorem PR.pure (h : PR w qb rb vb left b bad) (hB : Below w.heap.size w w') : PR w' qb rb vb left b bad :=
 ⟨h.1.pure hB, h.2.1.pure hB, h.2.2.1.pure hB, h.2.2.2⟩
theorem PR.turn {b' : List UInt8} {bad' : Bool} (h : PR w qb rb vb left b bad) (hs : RdS w' vb b' bad') (hu : Upd (acu vb) w w') : PR w' qb rb vb left b' bad' :=
 ⟨h.1.upd hu (fun e => by have := h.vq; unfold acu at e; omega), h.2.1.upd hu, hs, h.2.2.2⟩
theorem PR.setL (h : PR w qb rb vb left b bad) (l : Int) : PR (w.setCell ⟨qb, 1, none⟩ (.int .i64 l)) qb rb vb l b bad := by
 have hu : Upd (fun k => k = qb) w (w.setCell ⟨qb, 1, none⟩ (.int .i64 l)) := Upd.set (S := fun k => k = qb) (p := ⟨qb, 1, none⟩) rfl _
 refine ⟨h.1.set 1 (.int .i64 l), ⟨h.2.1.1.upd hu (fun e => Nat.ne_of_lt h.2.2.2 e), h.2.1.2⟩, h.2.2.1.above hu (fun k hk => by have := h.vq; omega), h.2.2.2⟩
end
abbrev wrongE : PanicEntry := { v := .iface 232 (.agg #[]), recovered := false }
theorem aih (w : World) (qb rb vb : Nat) (left : Int) (b : List UInt8) (h : PR w qb rb vb left b false) :
 Calls prog 201 #[.pointer (some ⟨qb, 0, none⟩), .bool true] w fun e w' => e = .returned (.tuple #[]) ∧ w = w' := by
 have c0 := h.1.at 0 rfl
 go_enter func201, ntmps201
 go_wp2_with fail
 refine (aei _ rb vb b false h.2.1 h.2.2.1).mono ?_
 rintro e w1 ⟨rfl, rfl⟩
 go_wp2
 go_end0
 exact ⟨rfl, rfl⟩
theorem agy (w : World) (qb rb vb : Nat) (left : Int) (b : List UInt8) (wd n : Nat) (c : Int) (r : List UInt8) (h : PR w qb rb vb left b false) (hc : c = (wd : Int)) (hw : Wd wd) (hg : gN wd b = some (n, r)) (hL : Big b.length) :
 Calls prog 169 #[.pointer (some ⟨rb, 0, none⟩), .int .i64 c] w fun e w' => e = .returned (.int .u64 n) ∧ PR w' qb rb vb left r false ∧ Upd (acu vb) w w' := by
 subst hc
 exact (ai2 w rb vb b wd n r h.p h.s hw hg hL).mono fun e w' ⟨a, b, c⟩ => ⟨a, h.turn b c, c⟩
theorem ai4 (w : World) (qb rb vb : Nat) (left : Int) (b : List UInt8) (wd most : Nat) (c m : Int) (s : ByteArray) (r : List UInt8) (h : PR w qb rb vb left b false) (hc : c = (wd : Int)) (hm : m = (most : Int)) (hw : wd = 1 ∨ wd = 2 ∨ wd = 4) (hM : most ≤ 4096) (hg : gT wd most b = some (s, r)) (hL : Big b.length) :
 Calls prog 197 #[.pointer (some ⟨rb, 0, none⟩), .int .i64 c, .int .i64 m] w fun e w' => e = .returned (.string s) ∧ PR w' qb rb vb left r false ∧ Upd (acu vb) w w' := by
 subst hc hm
 exact (ap3 w rb vb b wd most s r h.p h.s hw hg hL (by unfold Big; omega)).mono fun e w' ⟨a, b, c⟩ => ⟨a, h.turn b c, c⟩
theorem ba9 (w : World) (qb rb vb : Nat) (left : Int) (b : List UInt8) (bad : Bool) (h : PR w qb rb vb left b bad) :
 Calls prog 171 #[.pointer (some ⟨rb, 0, none⟩)] w fun e w' => e = .returned (.int .i64 b.length) ∧ w = w' := aeh w rb vb b bad h.p h.s
def avy (w : World) (qb rb vb : Nat) : Option (V × Int × List UInt8) → Ending → World → Prop
 | none, e, w' => e = .panicked [wrongE] ∧ Upd (Two qb vb) w w'
 | some (x, left, r), e, w' => ∃ t : VT, e = .returned t.arg ∧ t.v = x ∧ Rd (fun k => w.heap.size ≤ k) w' t ∧ PR w' qb rb vb left r false ∧ Upd (Two qb vb) w w'
def aop (qb vb xb : Nat) (k : Nat) : Prop := k = qb ∨ k = vb ∨ k = xb
def avz (w : World) (qb rb vb xb : Nat) (k : Int) : Option (List ByteArray × List V × Int × List UInt8) → Ending → World → Prop
 | none, e, w' => e = .panicked [wrongE] ∧ Upd (aop qb vb xb) w w'
 | some (ks, l, left, r), e, w' => ∃ (kv lv : Value) (L : List VT), e = .returned (.tuple #[]) ∧ Blk w' xb [.int .u8 k, .int .u64 0, .string ⟨#[]⟩, kv, lv] ∧ Own w.heap.size 9 1 abv w' kv ks ∧ Own w.heap.size 56 5 ac6 w' lv L ∧ L.map VT.v = l ∧
  (∀ x ∈ L, Rd (fun k => w.heap.size ≤ k) w' x) ∧ PR w' qb rb vb left r false ∧ Upd (aop qb vb xb) w w'
def rdM (f : Int → List UInt8 → Option (V × Int × List UInt8)) (m : Bool) (left : Int) (b1 : List UInt8) : Option (List ByteArray × List V × Int × List UInt8) :=
 (gN 4 b1).bind fun (size, b2) => (gN 4 b2).bind fun (n, b3) =>
 if size ≤ b2.length ∧ n < 200 then (abk f m n left b3).bind fun (ks, l, left2, b4) => if b2.length - b4.length = size then some (ks, l, left2, b4) else none else none
theorem Blk.newK (w : World) (cs : List Value) (T : TypeId) (k : Nat) (h : w.heap.size = k) : Blk (w.alloc (.cells cs.toArray T)) k cs := h ▸ Blk.new w cs T
section
variable {S : Nat → Prop} {w w' : World} {B : Nat}
abbrev set5 (w : World) (B : Nat) (v0 v1 v2 v3 v4 : Value) : World := ((((w.setCell ⟨B, 0, none⟩ v0).setCell ⟨B, 1, none⟩ v1).setCell ⟨B, 2, none⟩ v2).setCell ⟨B, 3, none⟩ v3).setCell ⟨B, 4, none⟩ v4
theorem af7 {P : Prop} (h : P := by
 exact ((((s _ _ _).trans (s _ _ _) (fun _ h _ => h)).trans (s _ _ _) (fun _ h _ => h)).trans (s _ _ _) (fun _ h _ => h)).trans (s _ _ _) (fun _ h _ => h)) : P := h
theorem Upd.at5 (w : World) (B : Nat) (v0 v1 v2 v3 v4 : Value) : Upd (fun k => k = B) w (set5 w B v0 v1 v2 v3 v4) := by
 have s := fun (u : World) (i : Nat) (v : Value) => Upd.set (S := fun k => k = B) (w := u) (p := ⟨B, i, none⟩) rfl v
 exact af7
theorem Upd.fresh5 (h : Upd S w w') (hB : w.heap.size ≤ B) (v0 v1 v2 v3 v4 : Value) : Upd S w (set5 w' B v0 v1 v2 v3 v4) := h.trans (Upd.at5 w' B v0 v1 v2 v3 v4) (fun i e hi => by omega)
theorem PR.fresh5 {qb rb vb : Nat} {left : Int} {b : List UInt8} {bad : Bool} (h : PR w qb rb vb left b bad) (hB : qb < B) (v0 v1 v2 v3 v4 : Value) : PR (set5 w B v0 v1 v2 v3 v4) qb rb vb left b bad := h.above (Upd.at5 w B v0 v1 v2 v3 v4) (fun k e => by omega)
theorem Blk.fresh5 {c0 c1 c2 c3 c4 : Value} (h : Blk w B [c0, c1, c2, c3, c4]) (v0 v1 v2 v3 v4 : Value) : Blk (set5 w B v0 v1 v2 v3 v4) B [v0, v1, v2, v3, v4] := ((((h.set 0 v0).set 1 v1).set 2 v2).set 3 v3).set 4 v4
end
theorem Rd.leaf {P : Nat → Prop} {w : World} {k n : Int} {s : ByteArray} (h0 : 0 ≤ n) (h1 : n < 18446744073709551616) (h2 : 0 ≤ k) (h3 : k < 256) : Rd P w (.mk k n s (.slice none 0 0) (.slice none 0 0) [] []) :=
 .mk (Slc.nil _ _ _) (fun e => jp rfl e) (Slc.nil _ _ _) (fun e => jp rfl e) (fun x hx => jp hx (by simp [VT.l])) h0 h1 h2 h3
theorem bcp (w : Nat) (b : List UInt8) : b.length < w ∨ ∃ n r, gN w b = some (n, r) := by
 by_cases h : w ≤ b.length
 ·exact .inr ⟨_, _, qw h⟩
 ·exact .inl (by omega)
theorem gN8 {n : Nat} {b r : List UInt8} (h : gN 1 b = some (n, r)) : n < 256 := (ahy h).2
theorem av0 (f : Int → List UInt8 → Option (V × Int × List UInt8)) (m : Bool) (k left : Int) (b1 : List UInt8) :
 ((gN 4 b1).bind fun (x : Nat × List UInt8) => (gN 4 x.2).bind fun (y : Nat × List UInt8) =>
  if x.1 ≤ x.2.length ∧ y.1 < 200 then
   (abk f m y.1 left y.2).bind fun (z : List ByteArray × List V × Int × List UInt8) => if x.2.length - z.2.2.2.length = x.1 then some (V.mk k 0 ByteArray.empty z.1 z.2.1, z.2.2.1, z.2.2.2) else none
  else none) = (rdM f m left b1).bind fun (z : List ByteArray × List V × Int × List UInt8) => some (V.mk k 0 ByteArray.empty z.1 z.2.1, z.2.2.1, z.2.2.2) := by
 unfold rdM
 rcases gN 4 b1 with _ | ⟨size, b2⟩
 ·rfl
 rw [Option.bind_some, Option.bind_some]
 dsimp only
 rcases gN 4 b2 with _ | ⟨n, b3⟩
 ·rfl
 rw [Option.bind_some, Option.bind_some]
 dsimp only
 split
 ·rcases abk f m n left b3 with _ | ⟨ks, l, left2, b4⟩
  ·rfl
  rw [Option.bind_some, Option.bind_some]; dsimp only; split <;> rfl
 ·rfl
theorem Upd.two {qb vb : Nat} {a b c : World} (h : Upd (Two qb vb) a b) (k : Upd (Two qb vb) b c) : Upd (Two qb vb) a c := h.trans k (fun _ h _ => h)
theorem Upd.only_two {qb vb : Nat} {a b : World} (h : Upd (acu vb) a b) : Upd (Two qb vb) a b := h.mono (fun k hk _ => Or.inr hk)
theorem aq4 (w : World) (s : ByteArray) (hs : s.size ≤ 1000000000) : ∃ c W, (convert 9 189 (.string s)).run prog w = .ok (.slice (some ⟨w.heap.size, 0, none⟩) s.size c) W ∧ Slc aax 1 W (.slice (some ⟨w.heap.size, 0, none⟩) s.size c) s.data.toList ∧ Below w.heap.size w W := by
 refine ⟨_, _, Lib.run_convert_string_bytes w _ _ 5 s underlying9 underlying189 underlying5, ?_, ?_⟩
 ·have e : s.data.toList.length = s.size := acj s
  refine .inr ⟨w.heap.size, 0, _, by rw [e], by rw [e]; exact grownCap_ge _ _ _ _, grownCap_le_maxLen _ _ _ _ (by unfold maxLen; omega), fun i hi j u hu => ?_⟩; have hj : j < 1 := (List.getElem?_eq_some_iff.1 hu).1; obtain rfl : j = 0 := by omega
  rw [show 0 + i * 1 + 0 = i by omega, Lib.bytesWorld_cell w _ s i (by omega), List.getD_eq_getElem?_getD, List.getElem?_eq_getElem hi]; exact hu
 ·exact ⟨rfl, rfl, rfl, by rw [Lib.bytesWorld_size]; omega, fun k hk => Lib.bytesWorld_at_old w _ s k hk⟩
theorem aya (n : Nat) (r : RS) : (tkR n r).2.1.length ≤ r.1.length := by unfold tkR; split <;> simp
theorem ayb (n : Nat) (r : RS) : (nmR n r).2.1.length ≤ r.1.length := by
 unfold nmR
 split
 ·rcases h : gN n r.1 with _ | ⟨m, b⟩
  ·simp
  ·exact (aks h).2.1
 ·simp
theorem bcq {w most : Nat} {b : List UInt8} {s : ByteArray} {r : List UInt8} (h : gT w most b = some (s, r)) : r.length ≤ b.length ∧ s.size ≤ most := by
 obtain ⟨⟨n, b1⟩, hn, hg⟩ := aah h
 have h1 := (aks hn).2.1
 dsimp only at hg
 split at hg
 ·rename_i hc
  simp only [jy, jm] at hg; obtain ⟨rfl, rfl⟩ := hg; refine ⟨by rw [List.length_drop]; omega, ?_⟩; have : (List.take n b1).length ≤ most := by rw [List.length_take]; omega
  simpa [ByteArray.size] using this
 ·simp at hg
theorem bba (n m : Nat) (r : RS) : (txR n m r).2.1.length ≤ r.1.length := by
 unfold txR
 split
 ·rcases h : gT n m r.1 with _ | ⟨s, b⟩
  ·simp
  ·exact (bcq h).1
 ·simp
theorem asx (is : Bool) (r : RS) : (aoj is r).2.1.length ≤ r.1.length := by
 unfold aoj
 split
 ·exact bba _ _ _
 ·exact qj _
theorem ayc (n : Nat) (r : RS) : (nmR n r).1 < 256 ^ n := by
 unfold nmR
 split
 ·rcases h : gN n r.1 with _ | ⟨m, b⟩
  ·exact Nat.pow_pos (by omega)
  ·exact (aks h).1
 ·exact Nat.pow_pos (by omega)
theorem al7 (w : World) (rb vb : Nat) (r : RS) (n : Nat) (hp : RdP w rb vb) (hs : RdS w vb r.1 r.2) (hL : Big r.1.length) :
 Calls prog 168 #[.pointer (some ⟨rb, 0, none⟩), .int .i64 n] w fun e w' => ∃ v, e = .returned v ∧ Slc aax 1 w' v (tkR n r).1 ∧ (∀ k, v.ownBlock = some k → w.heap.size ≤ k) ∧ RdS w' vb (tkR n r).2.1 (tkR n r).2.2 ∧ Upd (acu vb) w w' := by
 obtain ⟨b, bad⟩ := r
 unfold tkR
 by_cases h : bad = false ∧ n ≤ b.length
 ·obtain ⟨rfl, h2⟩ := h
  rw [qw ⟨rfl, h2⟩]; exact (al5 w rb vb b n hp hs h2 hL).mono fun e w' ⟨v, he, hO, hr, hu⟩ => ⟨v, he, hO.slc aaa, fun k hk => hO.ge hk, hr, hu⟩
 ·rw [qk h]
  refine (ast w rb vb b bad n hp hs (by cases bad with | true => exact .inl rfl | false => exact .inr (by have : ¬ n ≤ b.length := fun e => h ⟨rfl, e⟩; omega))).mono fun e w' ⟨he, hr, hu⟩ => ⟨_, he, Slc.nil0, (fun k hk => by cases hk), hr, hu⟩
theorem asy (w : World) (rb vb : Nat) (r : RS) (wd : Nat) (hp : RdP w rb vb) (hs : RdS w vb r.1 r.2) (hw : Wd wd) (hL : Big r.1.length) :
 Calls prog 169 #[.pointer (some ⟨rb, 0, none⟩), .int .i64 wd] w fun e w' => e = .returned (.int .u64 (nmR wd r).1) ∧ RdS w' vb (nmR wd r).2.1 (nmR wd r).2.2 ∧ Upd (acu vb) w w' := by
 obtain ⟨b, bad⟩ := r
 unfold nmR
 cases bad with
 | true =>
  rw [qk (by simp)]; exact asu w rb vb b true wd hp hs hw (.inl rfl)
 | false =>
  rw [qw rfl]; rcases h : gN wd b with _ | ⟨n, b1⟩
  ·refine asu w rb vb b false wd hp hs hw (.inr ?_)
   rcases bcp wd b with h1 | ⟨n, r, h1⟩
   ·exact h1
   ·rw [h1] at h; cases h
  ·exact ai2 w rb vb b wd n b1 hp hs hw h hL
theorem av1 (w : World) (rb vb : Nat) (r : RS) (wd most : Nat) (hp : RdP w rb vb) (hs : RdS w vb r.1 r.2) (hw : wd = 1 ∨ wd = 2 ∨ wd = 4) (hL : Big r.1.length) (hM : Big most) :
 Calls prog 197 #[.pointer (some ⟨rb, 0, none⟩), .int .i64 wd, .int .i64 most] w fun e w' => e = .returned (.string (txR wd most r).1) ∧ RdS w' vb (txR wd most r).2.1 (txR wd most r).2.2 ∧ Upd (acu vb) w w' := by
 obtain ⟨b, bad⟩ := r
 unfold txR
 cases bad with
 | true =>
  rw [qk (by simp)]; exact asv w rb vb b true wd most hp hs hw (.inl rfl) hL hM
 | false =>
  rw [qw rfl]; rcases h : gT wd most b with _ | ⟨s, b1⟩
  ·exact asv w rb vb b false wd most hp hs hw (.inr h) hL hM
  ·exact ap3 w rb vb b wd most s b1 hp hs hw h hL hM
theorem asz : (prog.info? 9).map (fun i => (i.zero, i.size, i.bytes)) = some (some (.string ⟨#[]⟩), 1, 16) := by kernel_rfl
theorem am3 : ElemT prog 53 9 1 16 := ElemT.mk' underlying53 asz rfl (by omega)
theorem av2 : (prog.info? 56).map (fun i => (i.zero, i.size, i.bytes)) = some (some (.agg #[.int .u8 0, .int .u64 0, .string ⟨#[]⟩, .slice none 0 0, .slice none 0 0]), 5, 80) := by kernel_rfl
theorem aej : ElemT prog 54 56 5 80 := ElemT.mk' underlying54 av2 rfl (by omega)
theorem aaq {α : Type} {enc : α → List Value} {m bytes base : Nat} {P : Program} {w : World} {ops : Array Oper} {rest : List Oper} {o : Oper} {a : Act} {Q : Exit → Act → World → Prop}
 (hgd : o.guard = none) (s x : Operand) (t e : TypeId) (ho : o.op = .call { callee := .builtin .append, args := #[s, x], argTypes := #[t, t] })
 (hE : ElemT P t e m bytes) (hm : ∀ x, (enc x).length = m) 
 (v : Value) (L : List α) (hs : a.eval s = v) (hown : Own base e m enc w v L)
 (g cap : Nat) (y : α) (hone : ∀ u ∈ enc y, u.oneCell' = true) (hx : a.eval x = .slice (some ⟨g, 0, none⟩) 1 cap) (hy : ∀ j u, (enc y)[j]? = some u → w.cell? ⟨g, j, none⟩ = some u)
 (hbytes : (L.length + 1) * bytes ≤ 140737488355328) (hlen : L.length + 1 ≤ maxLen) (hbase : base ≤ w.heap.size)
 (h : ∀ g' cap' w', Own base e m enc w' (.slice (some ⟨g', 0, none⟩) (L.length + 1) cap') (L ++ [y]) → w.grownBy w' v.ownBlock → (v.ownBlock = some g' ∨ g' = w.heap.size) →
  wpList P ops Q rest (a.put o.dst (.slice (some ⟨g', 0, none⟩) (L.length + 1) cap')) w') :
 wpList P ops Q (o :: rest) a w := by
 obtain ⟨i, z, hi, hz, hsize, hby, hzs⟩ := hE.ex
 refine wpList_append_own_at w hgd s x t ho base e i z m bytes hE.ht hi hz hsize hby hzs hE.pos v L.length (L.flatMap enc) hs hown ⟨g, 0, none⟩ 1 cap (enc y) hx (by rw [hm]; omega) ?_ hone hlen hbytes hbase ?_
 ·exact ai0
 ·exact aiz
def VT.zero : VT := .mk 0 0 ⟨#[]⟩ (.slice none 0 0) (.slice none 0 0) [] []
theorem am4 {α β : Type} {b b' e e' m m' : Nat} {enc : α → List Value} {enc' : β → List Value} {w : World} {v v' : Value} {L : List α} {L' : List β} (h : Own b e m enc w v L) (h' : Own b' e' m' enc' w v' L') (hne : e ≠ e') {i : Nat} (hi : v.ownBlock = some i) (hj : v'.ownBlock = some i) : False := by
 rcases h.2 with ⟨rfl, _⟩ | ⟨g, cap, cur, rfl, hb, hg, _⟩
 ·simp [Value.ownBlock] at hi
 ·rcases h'.2 with ⟨rfl, _⟩ | ⟨g', cap', cur', rfl, hb', hg', _⟩
  ·simp [Value.ownBlock] at hj
  ·simp only [Value.ownBlock, Option.map_some, jy] at hi hj
   subst hi hj; rw [hg] at hg'; simp only [jy, Obj.cells.injEq] at hg'; exact hne hg'.2.1
def MP (B : Nat) (kv lv : Value) (i : Nat) : Prop := B ≤ i ∧ kv.ownBlock ≠ some i ∧ lv.ownBlock ≠ some i
structure MSt (w0 : World) (qb rb vb xb : Nat) (k : Int) (w : World) (left : Int) (b : List UInt8) (bad : Bool) (kv lv : Value) (ks : List ByteArray) (L : List VT) : Prop where
 pr : PR w qb rb vb left b bad
 x : Blk w xb [.int .u8 k, .int .u64 0, .string ⟨#[]⟩, kv, lv]
 ko : Own w0.heap.size 9 1 abv w kv ks
 lo : Own w0.heap.size 56 5 ac6 w lv L
 rd : ∀ x ∈ L, Rd (MP w0.heap.size kv lv) w x
 up : Upd (aop qb vb xb) w0 w
 lt : qb < xb
 xl : xb < w0.heap.size
section
variable {w0 w w' : World} {qb rb vb xb : Nat} {k left : Int} {b : List UInt8} {bad : Bool} {kv lv : Value} {ks : List ByteArray} {L : List VT}
theorem MSt.moved {S : Nat → Prop} {left' : Int} {b' : List UInt8} {bad' : Bool} (h : MSt w0 qb rb vb xb k w left b bad kv lv ks L) (p : PR w' qb rb vb left' b' bad') (hu : Upd S w w') (hS : ∀ i, S i → i = qb ∨ i = vb) : MSt w0 qb rb vb xb k w' left' b' bad' kv lv ks L := by
 have hv := h.pr.vq; have h1 := h.lt; have h2 := h.xl
 have hs : ∀ i, w0.heap.size ≤ i → ¬ S i := fun i hi e => by rcases hS i e with e | e <;> omega
 exact ⟨p, h.x.upd hu (fun e => by rcases hS _ e with e | e <;> omega), h.ko.upd hu (fun i hi => hs i (h.ko.ge hi)), h.lo.upd hu (fun i hi => hs i (h.lo.ge hi)), fun x hx => (h.rd x hx).upd hu (fun i hi => hs i hi.1),
  h.up.trans hu (fun i e _ => by rcases hS _ e with e | e; exact .inl e; exact .inr (.inl e)), h.lt, h.xl⟩
theorem MSt.pure (h : MSt w0 qb rb vb xb k w left b bad kv lv ks L) (hB : Below w.heap.size w w') : MSt w0 qb rb vb xb k w' left b bad kv lv ks L :=
 ⟨h.pr.pure hB, h.x.pure hB, h.ko.pure hB, h.lo.pure hB, fun x hx => (h.rd x hx).pure hB, h.up.trans (Upd.of_below (S := fun _ => False) hB) (fun _ e _ => e.elim), h.lt, h.xl⟩
theorem abn (w : World) : Below w.heap.size w w.drew := (qz _ w).drew
theorem MSt.alloc (h : MSt w0 qb rb vb xb k w left b bad kv lv ks L) (o : Obj) : MSt w0 qb rb vb xb k (w.alloc o) left b bad kv lv ks L := h.pure ((qz _ _).alloc (qj _) _)
theorem MSt.drew (h : MSt w0 qb rb vb xb k w left b bad kv lv ks L) : MSt w0 qb rb vb xb k w.drew left b bad kv lv ks L := h.pure (abn w)
theorem ai5 {P : Prop} (h : P := by
 have r := (h.rd x hx).weaken (Q := fun i => MP w0.heap.size kv lv i ∧ g ≠ i) (fun i hi hm => ⟨hm, fun e => by
  rcases hf with hf | hf
  ·exact hm.2.1 (by rw [hf, e])
  ·omega⟩)
 have r2 := (r.upd hu (fun i hi e => hi.1.2.1 e)).upd hs (fun i hi e => by have := hi.1.1; omega)
 exact r2.weaken (fun i _ hi => ⟨hi.1.1, fun e => hi.2 (by simpa [Value.ownBlock] using e), hi.1.2.2⟩)) : P := h
theorem MSt.key {key : ByteArray} {g cap : Nat} (h : MSt w0 qb rb vb xb k w left b bad kv lv ks L) (hO : Own w0.heap.size 9 1 abv w' (.slice (some ⟨g, 0, none⟩) (ks.length + 1) cap) (ks ++ [key])) (hg : w.grownBy w' kv.ownBlock) (hf : kv.ownBlock = some g ∨ g = w.heap.size) :
 Blk w' xb [.int .u8 k, .int .u64 0, .string ⟨#[]⟩, kv, lv] ∧ MSt w0 qb rb vb xb k (w'.setCell ⟨xb, 3, none⟩ (.slice (some ⟨g, 0, none⟩) (ks.length + 1) cap)) left b bad (.slice (some ⟨g, 0, none⟩) (ks.length + 1) cap) lv (ks ++ [key]) L := by
 have hv := h.pr.vq; have h1 := h.lt; have h2 := h.xl
 have hu : Upd (fun i => kv.ownBlock = some i) w w' := Upd.grown hg (fun i e => e)
 have hs := Upd.set (S := fun i => i = xb) (w := w') (p := ⟨xb, 3, none⟩) rfl (.slice (some ⟨g, 0, none⟩) (ks.length + 1) cap)
 have hx := h.x.upd hu (fun e => by have := h.ko.ge e; omega)
 refine ⟨hx, (h.pr.above hu (fun i e => by have := h.ko.ge e; omega)).above hs (fun i e => by omega), hx.set 3 _, hO.upd hs (fun i hi e => by have := hO.ge hi; omega),
  (h.lo.upd hu (fun i hi e => am4 h.lo h.ko (by decide) hi e)).upd hs (fun i hi e => by have := h.lo.ge hi; omega), fun x hx => ?_, ?_, h.lt, h.xl⟩
 ·exact ai5
 ·exact (h.up.trans hu (fun i e hi => by have := h.ko.ge e; omega)).trans hs (fun i e hi => .inr (.inr e))
abbrev set5r (w : World) (g j : Nat) (v0 v1 v2 v3 v4 : Value) : World := ((((w.setCell ⟨g, j * 5, none⟩ v0).setCell ⟨g, j * 5 + 1, none⟩ v1).setCell ⟨g, j * 5 + 2, none⟩ v2).setCell ⟨g, j * 5 + 3, none⟩ v3).setCell ⟨g, j * 5 + 4, none⟩ v4
theorem Upd.row5 (w : World) (g j : Nat) (v0 v1 v2 v3 v4 : Value) : Upd (fun i => i = g) w (set5r w g j v0 v1 v2 v3 v4) := by
 have s := fun (u : World) (o : Nat) (v : Value) => Upd.set (S := fun i => i = g) (w := u) (p := ⟨g, o, none⟩) rfl v
 exact af7
theorem Own.row5 {base : Nat} {e : TypeId} {w : World} {L : List VT} {g n cap : Nat} (h : Own base e 5 ac6 w (.slice (some ⟨g, 0, none⟩) n cap) L) (i : Nat) (hi : i < L.length) (t : VT) :
 Own base e 5 ac6 (set5r w g i (.int .u8 t.k) (.int .u64 t.n) (.string t.s) t.kv t.lv) (.slice (some ⟨g, 0, none⟩) n cap) (L.set i t) := by
 obtain ⟨z, hz⟩ := zz (L[i])
 have s0 := h.set aak i hi 0 (.int .u8 t.k) (.mk t.k z.n z.s z.kv z.lv [] []) (by omega) (by rw [hz]; rfl)
 have s1 := s0.set aak i (by simpa using hi) 1 (.int .u64 t.n) (.mk t.k t.n z.s z.kv z.lv [] []) (by omega) (by rw [List.getElem_set_self]; rfl)
 have s2 := s1.set aak i (by simpa using hi) 2 (.string t.s) (.mk t.k t.n t.s z.kv z.lv [] []) (by omega) (by rw [List.getElem_set_self]; rfl)
 have s3 := s2.set aak i (by simpa using hi) 3 t.kv (.mk t.k t.n t.s t.kv z.lv [] []) (by omega) (by rw [List.getElem_set_self]; rfl)
 have s4 := s3.set aak i (by simpa using hi) 4 t.lv t (by omega) (by rw [List.getElem_set_self]; rfl)
 simp only [List.set_set] at s4
 exact s4
theorem ap5 {α : Type} (L : List α) (z t : α) : (L ++ [z]).set L.length t = L ++ [t] := by
 rw [List.set_append_right _ _ (qj _), Nat.sub_self]; rfl
theorem ahg {P : Prop} (h : P := by
 have r := hx.weaken (Q := fun i => MP w0.heap.size kv lv i ∧ g ≠ i) (fun i hi hm => ⟨hm, fun e => by
  rcases hf with hf | hf
  ·exact hm.2.2 (by rw [hf, e])
  ·omega⟩)
 have r2 := r.upd hu (fun i hi e => by
  rcases e with e | e | e
  ·exact hi.1.2.2 e
  ·exact hi.2 e.symm
  ·have := hi.1.1; omega)
 exact r2.weaken (fun i _ hi => ⟨hi.1.1, hi.1.2.1, fun e => hi.2 (by simpa [Value.ownBlock] using e)⟩)) : P := h
theorem af8 {P : Prop} (h : P := by
 rcases e with e | e | e
 ·exact am4 h.ko h.lo (by decide) hi e
 ·subst e
  rcases hf with hf | hf
  ·exact am4 h.ko h.lo (by decide) hi hf
  ·have := h.ko.lt hi; omega
 ·have := h.ko.ge hi; omega) : P := h
theorem af9 {P : Prop} (h : P := by
 rcases List.mem_append.1 hx with hx | hx
 ·exact hrd x (h.rd x hx)
 ·rw [jc.1 hx]; exact hrd t ht) : P := h
theorem MSt.elemW {g cap : Nat} {t : VT} {wf : World} (h : MSt w0 qb rb vb xb k w left b bad kv lv ks L) (hgb : w0.heap.size ≤ g) (hf : lv.ownBlock = some g ∨ g = w.heap.size) (ht : Rd (MP w0.heap.size kv lv) w t)
 (hx : Blk wf xb [.int .u8 k, .int .u64 0, .string ⟨#[]⟩, kv, .slice (some ⟨g, 0, none⟩) (L.length + 1) cap]) (ho : Own w0.heap.size 56 5 ac6 wf (.slice (some ⟨g, 0, none⟩) (L.length + 1) cap) (L ++ [t])) (hu : Upd (fun i => lv.ownBlock = some i ∨ i = g ∨ i = xb) w wf) :
 MSt w0 qb rb vb xb k wf left b bad kv (.slice (some ⟨g, 0, none⟩) (L.length + 1) cap) ks (L ++ [t]) := by
 have hv := h.pr.vq; have h1 := h.lt; have h2 := h.xl
 have hrd : ∀ x, Rd (MP w0.heap.size kv lv) w x → Rd (MP w0.heap.size kv (.slice (some ⟨g, 0, none⟩) (L.length + 1) cap)) wf x := fun x hx => by
  exact ahg
 refine ⟨h.pr.above hu (fun i e => by rcases e with e | e | e; (have := h.lo.ge e; omega); omega; omega), hx, h.ko.upd hu (fun i hi e => ?_), ho, fun x hx => ?_, h.up.trans hu (fun i e hi => by rcases e with e | e | e; (have := h.lo.ge e; omega); omega; exact .inr (.inr e)), h.lt, h.xl⟩
 ·exact af8
 ·exact af9
theorem ai6 {P : Prop} (h : P := by
 have hgb : w0.heap.size ≤ g := hO.ge rfl
 have hu : Upd (fun i => lv.ownBlock = some i ∨ i = g ∨ i = xb) w w' := Upd.grown hg (fun i e => .inl e)
 have hr := Upd.row5 w' g L.length (.int .u8 t.k) (.int .u64 t.n) (.string t.s) t.kv t.lv
 have hs := Upd.set (S := fun i => i = xb) (w := set5r w' g L.length (.int .u8 t.k) (.int .u64 t.n) (.string t.s) t.kv t.lv) (p := ⟨xb, 4, none⟩) rfl (.slice (some ⟨g, 0, none⟩) (L.length + 1) cap)
 have hx : Blk w' xb [.int .u8 k, .int .u64 0, .string ⟨#[]⟩, kv, lv] := h.x.upd (Upd.grown (S := fun i => lv.ownBlock = some i) hg (fun i e => e)) (fun e => by have := h.lo.ge e; omega)
 have hx2 := hx.upd hr (fun e => by omega)
 have hO2 := hO.row5 L.length (by simp) t
 rw [ap5] at hO2
 exact ⟨hx, hx2, h.elemW hgb hf ht (hx2.set 4 _) (hO2.upd hs (fun i hi e => by have := hO2.ge hi; omega)) ((hu.trans hr (fun i e _ => .inr (.inl e))).trans hs (fun i e _ => .inr (.inr e)))⟩) : P := h
theorem MSt.elem {g cap : Nat} {t : VT} (h : MSt w0 qb rb vb xb k w left b bad kv lv ks L) (hO : Own w0.heap.size 56 5 ac6 w' (.slice (some ⟨g, 0, none⟩) (L.length + 1) cap) (L ++ [VT.zero])) (hg : w.grownBy w' lv.ownBlock) (hf : lv.ownBlock = some g ∨ g = w.heap.size)
 (ht : Rd (MP w0.heap.size kv lv) w t) :
 Blk w' xb [.int .u8 k, .int .u64 0, .string ⟨#[]⟩, kv, lv] ∧ Blk (set5r w' g L.length (.int .u8 t.k) (.int .u64 t.n) (.string t.s) t.kv t.lv) xb [.int .u8 k, .int .u64 0, .string ⟨#[]⟩, kv, lv] ∧
 MSt w0 qb rb vb xb k ((set5r w' g L.length (.int .u8 t.k) (.int .u64 t.n) (.string t.s) t.kv t.lv).setCell ⟨xb, 4, none⟩ (.slice (some ⟨g, 0, none⟩) (L.length + 1) cap)) left b bad kv (.slice (some ⟨g, 0, none⟩) (L.length + 1) cap) ks (L ++ [t]) := by
 have hv := h.pr.vq; have h1 := h.lt; have h2 := h.xl
 exact ai6
theorem ai7 {P : Prop} (h : P := by
 have hgb : w0.heap.size ≤ g := hO.ge rfl
 have hu : Upd (fun i => lv.ownBlock = some i ∨ i = g ∨ i = xb) w w' := Upd.grown hg (fun i e => .inl e)
 have hs := Upd.set (S := fun i => i = xb) (w := w') (p := ⟨xb, 4, none⟩) rfl (.slice (some ⟨g, 0, none⟩) (L.length + 1) cap)
 have hr := Upd.row5 (w'.setCell ⟨xb, 4, none⟩ (.slice (some ⟨g, 0, none⟩) (L.length + 1) cap)) g L.length (.int .u8 t.k) (.int .u64 t.n) (.string t.s) t.kv t.lv
 have hx : Blk w' xb [.int .u8 k, .int .u64 0, .string ⟨#[]⟩, kv, lv] := h.x.upd (Upd.grown (S := fun i => lv.ownBlock = some i) hg (fun i e => e)) (fun e => by have := h.lo.ge e; omega)
 have hOs := hO.upd hs (fun i hi e => by have := hO.ge hi; omega)
 have hO2 := hOs.row5 L.length (by simp) t
 rw [ap5] at hO2
 exact ⟨hOs, h.elemW hgb hf ht ((hx.set 4 _).upd hr (fun e => by omega)) hO2 ((hu.trans hs (fun i e _ => .inr (.inr e))).trans hr (fun i e _ => .inr (.inl e)))⟩) : P := h
theorem MSt.elem2 {g cap : Nat} {t : VT} (h : MSt w0 qb rb vb xb k w left b bad kv lv ks L) (hO : Own w0.heap.size 56 5 ac6 w' (.slice (some ⟨g, 0, none⟩) (L.length + 1) cap) (L ++ [VT.zero])) (hg : w.grownBy w' lv.ownBlock) (hf : lv.ownBlock = some g ∨ g = w.heap.size)
 (ht : Rd (MP w0.heap.size kv lv) w t) :
 Own w0.heap.size 56 5 ac6 (w'.setCell ⟨xb, 4, none⟩ (.slice (some ⟨g, 0, none⟩) (L.length + 1) cap)) (.slice (some ⟨g, 0, none⟩) (L.length + 1) cap) (L ++ [VT.zero]) ∧
 MSt w0 qb rb vb xb k (set5r (w'.setCell ⟨xb, 4, none⟩ (.slice (some ⟨g, 0, none⟩) (L.length + 1) cap)) g L.length (.int .u8 t.k) (.int .u64 t.n) (.string t.s) t.kv t.lv) left b bad kv (.slice (some ⟨g, 0, none⟩) (L.length + 1) cap) ks (L ++ [t]) := by
 have hv := h.pr.vq; have h1 := h.lt; have h2 := h.xl
 exact ai7
theorem MSt.start (p : PR w qb rb vb left b bad) (x : Blk w xb [.int .u8 k, .int .u64 0, .string ⟨#[]⟩, .slice none 0 0, .slice none 0 0]) (up : Upd (aop qb vb xb) w0 w) (h1 : qb < xb) (h2 : xb < w0.heap.size) : MSt w0 qb rb vb xb k w left b bad (.slice none 0 0) (.slice none 0 0) [] [] :=
 ⟨p, x, Own.nil, Own.nil, fun x hx => jp hx (by simp), up, h1, h2⟩
end
def asa (ks : List ByteArray) (l : List V) (o : Option (List ByteArray × List V × Int × List UInt8)) : Option (List ByteArray × List V × Int × List UInt8) := o.map fun z => (ks ++ z.1, l ++ z.2.1, z.2.2.1, z.2.2.2)
theorem av3 (o : Option (List ByteArray × List V × Int × List UInt8)) : asa [] [] o = o := by cases o <;> rfl
section
variable {f : Int → List UInt8 → Option (V × Int × List UInt8)} {q : Nat} {left left1 : Int} {b b1 b2 : List UInt8} {ks : List ByteArray} {l : List V} {key : ByteArray} {x : V}
theorem av4 (h1 : gT 1 255 b = some (key, b1)) (h2 : f left b1 = some (x, left1, b2)) : asa ks l (abk f true (q + 1) left b) = asa (ks ++ [key]) (l ++ [x]) (abk f true q left1 b2) := by
 conv => lhs; unfold abk
 rw [qw rfl, h1, Option.bind_some]; dsimp only; rw [h2, Option.bind_some]; dsimp only
 cases abk f true q left1 b2 <;> simp [asa]
theorem aq5 (h2 : f left b = some (x, left1, b2)) : asa ks l (abk f false (q + 1) left b) = asa ks (l ++ [x]) (abk f false q left1 b2) := by
 conv => lhs; unfold abk
 rw [qk (by simp), Option.bind_some]; dsimp only; rw [h2, Option.bind_some]; dsimp only
 cases abk f false q left1 b2 <;> simp [asa]
theorem av5 {m : Bool} : asa ks l (abk f m 0 left b) = some (ks, l, left, b) := by unfold abk asa; simp
end
def bdx (rb xb : Nat) (k : Nat) : Prop := k = rb ∨ k = xb
theorem DrS.lt {w : World} {rb : Nat} {b : List UInt8} {bad : Bool} (h : DrS w rb b bad) : rb < w.heap.size := by
 obtain ⟨bv, h1, _⟩ := h; exact h1.lt
theorem DrS.above {S : Nat → Prop} {w w' : World} {rb : Nat} {b : List UInt8} {bad : Bool} (h : DrS w rb b bad) (hu : Upd S w w') (hS : ∀ k, S k → rb < k) : DrS w' rb b bad := by
 exact alb
structure DSt (w0 : World) (rb xb : Nat) (k : Int) (w : World) (b : List UInt8) (bad : Bool) (kv lv : Value) (ks : List ByteArray) (L : List VT) : Prop where
 pr : DrS w rb b bad
 x : Blk w xb [.int .u8 k, .int .u64 0, .string ⟨#[]⟩, kv, lv]
 ko : Own w0.heap.size 9 1 abv w kv ks
 lo : Own w0.heap.size 56 5 ac6 w lv L
 rd : ∀ x ∈ L, Rd (MP w0.heap.size kv lv) w x
 up : Upd (bdx rb xb) w0 w
 lt : rb < xb
 xl : xb < w0.heap.size
section
variable {w0 w w' : World} {rb xb : Nat} {k : Int} {b : List UInt8} {bad : Bool} {kv lv : Value} {ks : List ByteArray} {L : List VT}
theorem DSt.moved {S : Nat → Prop} {b' : List UInt8} {bad' : Bool} (h : DSt w0 rb xb k w b bad kv lv ks L) (p : DrS w' rb b' bad') (hu : Upd S w w') (hS : ∀ i, S i → i = rb) : DSt w0 rb xb k w' b' bad' kv lv ks L := by
 have h1 := h.lt; have h2 := h.xl
 have hs : ∀ i, w0.heap.size ≤ i → ¬ S i := fun i hi e => by have := hS i e; omega
 exact ⟨p, h.x.upd hu (fun e => by have := hS _ e; omega), h.ko.upd hu (fun i hi => hs i (h.ko.ge hi)), h.lo.upd hu (fun i hi => hs i (h.lo.ge hi)), fun x hx => (h.rd x hx).upd hu (fun i hi => hs i hi.1),
  h.up.trans hu (fun i e _ => .inl (hS _ e)), h.lt, h.xl⟩
theorem DSt.pure (h : DSt w0 rb xb k w b bad kv lv ks L) (hB : Below w.heap.size w w') : DSt w0 rb xb k w' b bad kv lv ks L :=
 ⟨h.pr.pure hB, h.x.pure hB, h.ko.pure hB, h.lo.pure hB, fun x hx => (h.rd x hx).pure hB, h.up.trans (Upd.of_below (S := fun _ => False) hB) (fun _ e _ => e.elim), h.lt, h.xl⟩
theorem DSt.alloc (h : DSt w0 rb xb k w b bad kv lv ks L) (o : Obj) : DSt w0 rb xb k (w.alloc o) b bad kv lv ks L := h.pure ((qz _ _).alloc (qj _) _)
theorem DSt.drew (h : DSt w0 rb xb k w b bad kv lv ks L) : DSt w0 rb xb k w.drew b bad kv lv ks L := h.pure (abn w)
theorem DSt.key {key : ByteArray} {g cap : Nat} (h : DSt w0 rb xb k w b bad kv lv ks L) (hO : Own w0.heap.size 9 1 abv w' (.slice (some ⟨g, 0, none⟩) (ks.length + 1) cap) (ks ++ [key])) (hg : w.grownBy w' kv.ownBlock) (hf : kv.ownBlock = some g ∨ g = w.heap.size) :
 Blk w' xb [.int .u8 k, .int .u64 0, .string ⟨#[]⟩, kv, lv] ∧ DSt w0 rb xb k (w'.setCell ⟨xb, 3, none⟩ (.slice (some ⟨g, 0, none⟩) (ks.length + 1) cap)) b bad (.slice (some ⟨g, 0, none⟩) (ks.length + 1) cap) lv (ks ++ [key]) L := by
 have h1 := h.lt; have h2 := h.xl
 have hu : Upd (fun i => kv.ownBlock = some i) w w' := Upd.grown hg (fun i e => e)
 have hs := Upd.set (S := fun i => i = xb) (w := w') (p := ⟨xb, 3, none⟩) rfl (.slice (some ⟨g, 0, none⟩) (ks.length + 1) cap)
 have hx := h.x.upd hu (fun e => by have := h.ko.ge e; omega)
 refine ⟨hx, (h.pr.above hu (fun i e => by have := h.ko.ge e; omega)).above hs (fun i e => by omega), hx.set 3 _, hO.upd hs (fun i hi e => by have := hO.ge hi; omega),
  (h.lo.upd hu (fun i hi e => am4 h.lo h.ko (by decide) hi e)).upd hs (fun i hi e => by have := h.lo.ge hi; omega), fun x hx => ?_, ?_, h.lt, h.xl⟩
 ·exact ai5
 ·exact (h.up.trans hu (fun i e hi => by have := h.ko.ge e; omega)).trans hs (fun i e hi => .inr e)
theorem DSt.elemW {g cap : Nat} {t : VT} {wf : World} (h : DSt w0 rb xb k w b bad kv lv ks L) (hgb : w0.heap.size ≤ g) (hf : lv.ownBlock = some g ∨ g = w.heap.size) (ht : Rd (MP w0.heap.size kv lv) w t)
 (hx : Blk wf xb [.int .u8 k, .int .u64 0, .string ⟨#[]⟩, kv, .slice (some ⟨g, 0, none⟩) (L.length + 1) cap]) (ho : Own w0.heap.size 56 5 ac6 wf (.slice (some ⟨g, 0, none⟩) (L.length + 1) cap) (L ++ [t])) (hu : Upd (fun i => lv.ownBlock = some i ∨ i = g ∨ i = xb) w wf) :
 DSt w0 rb xb k wf b bad kv (.slice (some ⟨g, 0, none⟩) (L.length + 1) cap) ks (L ++ [t]) := by
 have h1 := h.lt; have h2 := h.xl
 have hrd : ∀ x, Rd (MP w0.heap.size kv lv) w x → Rd (MP w0.heap.size kv (.slice (some ⟨g, 0, none⟩) (L.length + 1) cap)) wf x := fun x hx => by
  exact ahg
 refine ⟨h.pr.above hu (fun i e => by rcases e with e | e | e; (have := h.lo.ge e; omega); omega; omega), hx, h.ko.upd hu (fun i hi e => ?_), ho, fun x hx => ?_, h.up.trans hu (fun i e hi => by rcases e with e | e | e; (have := h.lo.ge e; omega); omega; exact .inr e), h.lt, h.xl⟩
 ·exact af8
 ·exact af9
theorem DSt.elem {g cap : Nat} {t : VT} (h : DSt w0 rb xb k w b bad kv lv ks L) (hO : Own w0.heap.size 56 5 ac6 w' (.slice (some ⟨g, 0, none⟩) (L.length + 1) cap) (L ++ [VT.zero])) (hg : w.grownBy w' lv.ownBlock) (hf : lv.ownBlock = some g ∨ g = w.heap.size)
 (ht : Rd (MP w0.heap.size kv lv) w t) :
 Blk w' xb [.int .u8 k, .int .u64 0, .string ⟨#[]⟩, kv, lv] ∧ Blk (set5r w' g L.length (.int .u8 t.k) (.int .u64 t.n) (.string t.s) t.kv t.lv) xb [.int .u8 k, .int .u64 0, .string ⟨#[]⟩, kv, lv] ∧
 DSt w0 rb xb k ((set5r w' g L.length (.int .u8 t.k) (.int .u64 t.n) (.string t.s) t.kv t.lv).setCell ⟨xb, 4, none⟩ (.slice (some ⟨g, 0, none⟩) (L.length + 1) cap)) b bad kv (.slice (some ⟨g, 0, none⟩) (L.length + 1) cap) ks (L ++ [t]) := by
 have h1 := h.lt; have h2 := h.xl
 exact ai6
theorem DSt.elem2 {g cap : Nat} {t : VT} (h : DSt w0 rb xb k w b bad kv lv ks L) (hO : Own w0.heap.size 56 5 ac6 w' (.slice (some ⟨g, 0, none⟩) (L.length + 1) cap) (L ++ [VT.zero])) (hg : w.grownBy w' lv.ownBlock) (hf : lv.ownBlock = some g ∨ g = w.heap.size)
 (ht : Rd (MP w0.heap.size kv lv) w t) :
 Own w0.heap.size 56 5 ac6 (w'.setCell ⟨xb, 4, none⟩ (.slice (some ⟨g, 0, none⟩) (L.length + 1) cap)) (.slice (some ⟨g, 0, none⟩) (L.length + 1) cap) (L ++ [VT.zero]) ∧
 DSt w0 rb xb k (set5r (w'.setCell ⟨xb, 4, none⟩ (.slice (some ⟨g, 0, none⟩) (L.length + 1) cap)) g L.length (.int .u8 t.k) (.int .u64 t.n) (.string t.s) t.kv t.lv) b bad kv (.slice (some ⟨g, 0, none⟩) (L.length + 1) cap) ks (L ++ [t]) := by
 have h1 := h.lt; have h2 := h.xl
 exact ai7
theorem DSt.start (p : DrS w rb b bad) (x : Blk w xb [.int .u8 k, .int .u64 0, .string ⟨#[]⟩, .slice none 0 0, .slice none 0 0]) (up : Upd (bdx rb xb) w0 w) (h1 : rb < xb) (h2 : xb < w0.heap.size) : DSt w0 rb xb k w b bad (.slice none 0 0) (.slice none 0 0) [] [] :=
 ⟨p, x, Own.nil, Own.nil, fun x hx => jp hx (by simp), up, h1, h2⟩
end
theorem DSt.tree {w0 w w' : World} {rb xb : Nat} {k : Int} {b : List UInt8} {bad : Bool} {kv lv : Value} {ks : List ByteArray} {L : List VT} {t : VT} (h : DSt w0 rb xb k w b bad kv lv ks L) (ht : Rd (fun i => w.heap.size ≤ i) w' t) : Rd (MP w0.heap.size kv lv) w' t :=
 ht.weaken (fun i _ hi => ⟨jk h.up.size hi, fun e => by have := h.ko.lt e; omega, fun e => by have := h.lo.lt e; omega⟩)
theorem DSt.app {w0 w w' : World} {rb xb g cap : Nat} {k : Int} {b : List UInt8} {bad : Bool} {kv lv : Value} {ks : List ByteArray} {L : List VT} {t : VT} (h : DSt w0 rb xb k w b bad kv lv ks L) (hO : Own w0.heap.size 56 5 ac6 w' (.slice (some ⟨g, 0, none⟩) (L.length + 1) cap) (L ++ [t])) (hg : w.grownBy w' lv.ownBlock) (hf : lv.ownBlock = some g ∨ g = w.heap.size)
 (ht : Rd (MP w0.heap.size kv lv) w t) :
 Blk w' xb [.int .u8 k, .int .u64 0, .string ⟨#[]⟩, kv, lv] ∧ DSt w0 rb xb k (w'.setCell ⟨xb, 4, none⟩ (.slice (some ⟨g, 0, none⟩) (L.length + 1) cap)) b bad kv (.slice (some ⟨g, 0, none⟩) (L.length + 1) cap) ks (L ++ [t]) := by
 have h1 := h.lt; have h2 := h.xl
 have hgb : w0.heap.size ≤ g := hO.ge rfl
 have hu : Upd (fun i => lv.ownBlock = some i ∨ i = g ∨ i = xb) w w' := Upd.grown hg (fun i e => .inl e)
 have hs := Upd.set (S := fun i => i = xb) (w := w') (p := ⟨xb, 4, none⟩) rfl (.slice (some ⟨g, 0, none⟩) (L.length + 1) cap)
 have hx : Blk w' xb [.int .u8 k, .int .u64 0, .string ⟨#[]⟩, kv, lv] := h.x.upd (Upd.grown (S := fun i => lv.ownBlock = some i) hg (fun i e => e)) (fun e => by have := h.lo.ge e; omega)
 exact ⟨hx, h.elemW hgb hf ht (hx.set 4 _) (hO.upd hs (fun i hi e => by have := hO.ge hi; omega)) (hu.trans hs (fun i e _ => .inr (.inr e)))⟩
theorem DrS.fresh5 {w : World} {rb B : Nat} {b : List UInt8} {bad : Bool} (h : DrS w rb b bad) (hB : rb < B) (v0 v1 v2 v3 v4 : Value) : DrS (set5 w B v0 v1 v2 v3 v4) rb b bad := h.above (Upd.at5 w B v0 v1 v2 v3 v4) (fun k e => by omega)
theorem DSt.whole {w0 w w' : World} {rb xb : Nat} {k : Int} {b : List UInt8} {bad : Bool} {kv lv : Value} {ks : List ByteArray} {L : List VT} {S : Nat → Prop} (h : DSt w0 rb xb k w b bad kv lv ks L) (hu : Upd S w w') (hS : ∀ i, S i → i < w0.heap.size) (h0 : 0 ≤ k) (h1 : k < 256) : Rd (fun i => w0.heap.size ≤ i) w' (.mk k 0 ⟨#[]⟩ kv lv ks L) :=
 .mk ((h.ko.upd hu (fun i hi e => by have h2 := h.ko.ge hi; have h3 := hS i e; omega)).slc ac7) (fun _ i hi => h.ko.ge hi) ((h.lo.upd hu (fun i hi e => by have h2 := h.lo.ge hi; have h3 := hS i e; omega)).slc aak) (fun _ i hi => h.lo.ge hi)
  (fun x hx => ((h.rd x hx).upd hu (fun i hi e => by have h2 := hi.1; have h3 := hS i e; omega)).weaken (fun i _ hi => hi.1)) (by show (0 : Int) ≤ 0; omega) (by show (0 : Int) < 18446744073709551616; omega) h0 h1
theorem MSt.tree {w0 w w' : World} {qb rb vb xb : Nat} {k left : Int} {b : List UInt8} {bad : Bool} {kv lv : Value} {ks : List ByteArray} {L : List VT} {t : VT} (h : MSt w0 qb rb vb xb k w left b bad kv lv ks L) (ht : Rd (fun i => w.heap.size ≤ i) w' t) : Rd (MP w0.heap.size kv lv) w' t :=
 ht.weaken (fun i _ hi => ⟨jk h.up.size hi, fun e => by have := h.ko.lt e; omega, fun e => by have := h.lo.lt e; omega⟩)
def av6 (w0 : World) (qb rb vb xb : Nat) (k left : Int) (b : List UInt8) (bad : Bool) (lv : Value) (ks : List ByteArray) (L : List VT) (w : World) : Prop := ∃ kv : Value, MSt w0 qb rb vb xb k w left b bad kv lv ks L
open Go Tryz
def ctA (s : ByteArray) (pos : Nat) (A : Nat → Nat) (k lo hi : Nat) : Bool := decide (pos + k < s.size) && (decide (lo ≤ A k) && decide (A k ≤ hi))
theorem as0 (s : ByteArray) (k : Nat) (hk : k < s.size) : ∃ (h : k < s.data.toList.length), s.data.toList[k].toNat = (s.get! k).toNat := by
 refine ⟨by rw [acj]; exact hk, ?_⟩
 have : s.get! k = s.data[k]! := rfl
 rw [this, getElem!_pos s.data k hk]
 rw [Array.getElem_toList]
theorem bbb (s : ByteArray) (pos : Nat) (A : Nat → Nat) (hA : ∀ k, A k = (s.get! (pos + k)).toNat) (k lo hi : Nat) : ctB (s.data.toList.drop (pos + 1)) k lo hi = ctA s pos A (k + 1) lo hi := by
 unfold ctB ctA
 rw [List.getElem?_drop]
 by_cases hk : pos + (k + 1) < s.size
 ·obtain ⟨h1, h2⟩ := as0 s _ hk
  rw [show pos + 1 + k = pos + (k + 1) by omega, List.getElem?_eq_getElem h1]; simp only [h2, hA, hk, decide_true, Bool.true_and]
 ·rw [List.getElem?_eq_none (by rw [acj]; omega)]
  simp [hk]
theorem bbc (s : ByteArray) (pos : Nat) (h : pos < s.size) (A : Nat → Nat) (hA : ∀ k, A k = (s.get! (pos + k)).toNat) :
 u8n (s.data.toList.drop pos) =
  (if A 0 < 128 then 1
   else if 194 ≤ A 0 ∧ A 0 ≤ 223 then (if ctA s pos A 1 128 191 then 2 else 0)
   else if 224 ≤ A 0 ∧ A 0 ≤ 239 then (if ctA s pos A 1 (if A 0 = 224 then 160 else 128) (if A 0 = 237 then 159 else 191) && ctA s pos A 2 128 191 then 3 else 0)
   else if 240 ≤ A 0 ∧ A 0 ≤ 244 then (if ctA s pos A 1 (if A 0 = 240 then 144 else 128) (if A 0 = 244 then 143 else 191) && ctA s pos A 2 128 191 && ctA s pos A 3 128 191 then 4 else 0)
   else 0) := by
 obtain ⟨h0, hb0⟩ := as0 s pos h
 have hd : s.data.toList.drop pos = s.data.toList[pos] :: s.data.toList.drop (pos + 1) := List.drop_eq_getElem_cons _
 rw [hd]
 have hb0' : s.data.toList[pos].toNat = A 0 := by rw [hb0, hA, Nat.add_zero]
 unfold u8n
 simp only [bbb s pos A hA, hb0']
def D8 (b0 b1 b2 b3 : Nat) (p1 p2 p3 : Prop) [Decidable p1] [Decidable p2] [Decidable p3] : Nat × Nat :=
 if b0 < 128 then (b0, 1)
 else if b0 / 32 = 6 ∧ p1 then (if b0 % 32 * 64 + b1 % 64 ≥ 128 then (b0 % 32 * 64 + b1 % 64, 2) else (65533, 1))
 else if b0 / 16 = 14 ∧ p1 ∧ p2 then (if b0 % 16 * 4096 + b1 % 64 * 64 + b2 % 64 ≥ 2048 ∧ ¬ (55296 ≤ b0 % 16 * 4096 + b1 % 64 * 64 + b2 % 64 ∧ b0 % 16 * 4096 + b1 % 64 * 64 + b2 % 64 ≤ 57343) then (b0 % 16 * 4096 + b1 % 64 * 64 + b2 % 64, 3) else (65533, 1))
 else if b0 / 8 = 30 ∧ p1 ∧ p2 ∧ p3 then (if b0 % 8 * 262144 + b1 % 64 * 4096 + b2 % 64 * 64 + b3 % 64 ≥ 65536 ∧ b0 % 8 * 262144 + b1 % 64 * 4096 + b2 % 64 * 64 + b3 % 64 ≤ 1114111 then (b0 % 8 * 262144 + b1 % 64 * 4096 + b2 % 64 * 64 + b3 % 64, 4) else (65533, 1))
 else (65533, 1)
def U8 (b0 b1 b2 b3 : Nat) (q1 q2 q3 : Prop) [Decidable q1] [Decidable q2] [Decidable q3] : Nat :=
 if b0 < 128 then 1
 else if 194 ≤ b0 ∧ b0 ≤ 223 then (if q1 ∧ 128 ≤ b1 ∧ b1 ≤ 191 then 2 else 0)
 else if 224 ≤ b0 ∧ b0 ≤ 239 then (if (q1 ∧ (if b0 = 224 then 160 else 128) ≤ b1 ∧ b1 ≤ (if b0 = 237 then 159 else 191)) ∧ (q2 ∧ 128 ≤ b2 ∧ b2 ≤ 191) then 3 else 0)
 else if 240 ≤ b0 ∧ b0 ≤ 244 then (if ((q1 ∧ (if b0 = 240 then 144 else 128) ≤ b1 ∧ b1 ≤ (if b0 = 244 then 143 else 191)) ∧ (q2 ∧ 128 ≤ b2 ∧ b2 ≤ 191)) ∧ (q3 ∧ 128 ≤ b3 ∧ b3 ≤ 191) then 4 else 0)
 else 0
theorem bcr (b0 b1 b2 b3 : Nat) (q1 q2 q3 : Prop) [Decidable q1] [Decidable q2] [Decidable q3] (h0 : b0 < 256) :
 (U8 b0 b1 b2 b3 q1 q2 q3 = 0 ∧ D8 b0 b1 b2 b3 (q1 ∧ 128 ≤ b1 ∧ b1 ≤ 191) (q2 ∧ 128 ≤ b2 ∧ b2 ≤ 191) (q3 ∧ 128 ≤ b3 ∧ b3 ≤ 191) = (65533, 1)) ∨
 (U8 b0 b1 b2 b3 q1 q2 q3 ≠ 0 ∧ (D8 b0 b1 b2 b3 (q1 ∧ 128 ≤ b1 ∧ b1 ≤ 191) (q2 ∧ 128 ≤ b2 ∧ b2 ≤ 191) (q3 ∧ 128 ≤ b3 ∧ b3 ≤ 191)).2 = U8 b0 b1 b2 b3 q1 q2 q3 ∧ ((D8 b0 b1 b2 b3 (q1 ∧ 128 ≤ b1 ∧ b1 ≤ 191) (q2 ∧ 128 ≤ b2 ∧ b2 ≤ 191) (q3 ∧ 128 ≤ b3 ∧ b3 ≤ 191)).1 = 65533 → (D8 b0 b1 b2 b3 (q1 ∧ 128 ≤ b1 ∧ b1 ≤ 191) (q2 ∧ 128 ≤ b2 ∧ b2 ≤ 191) (q3 ∧ 128 ≤ b3 ∧ b3 ≤ 191)).2 ≠ 1)) := by
 unfold U8 D8
 by_cases c0 : b0 < 128
 ·rw [qw c0, qw c0]; right; refine ⟨by omega, rfl, fun h => ?_⟩; simp at h; omega
 rw [qk c0, qk c0]
 by_cases c1 : 192 ≤ b0 ∧ b0 ≤ 223
 ·have e1 : ¬ (224 ≤ b0 ∧ b0 ≤ 239) := by omega
  have e2 : ¬ (240 ≤ b0 ∧ b0 ≤ 244) := by omega
  have f1 : b0 / 32 = 6 := by omega
  have f2 : ¬ (b0 / 16 = 14) := by omega
  have f3 : ¬ (b0 / 8 = 30) := by omega
  simp only [e1, e2, f1, f2, f3, ↓reduceIte, true_and, false_and]; by_cases p1 : q1 ∧ 128 ≤ b1 ∧ b1 ≤ 191
  ·simp only [p1, ↓reduceIte, true_and]
   by_cases g : 194 ≤ b0
   ·have g1 : 194 ≤ b0 ∧ b0 ≤ 223 := by omega
    have g2 : b0 % 32 * 64 + b1 % 64 ≥ 128 := by omega
    rw [qw g1, qw g2]; right; exact ⟨by omega, rfl, fun _ => by simp⟩
   ·have g1 : ¬ (194 ≤ b0 ∧ b0 ≤ 223) := by omega
    have g2 : ¬ (b0 % 32 * 64 + b1 % 64 ≥ 128) := by omega
    rw [qk g1, qk g2]; left; exact ⟨by first | rfl | trivial, by first | rfl | trivial⟩
  ·simp only [p1, ↓reduceIte]; left; exact ⟨by split <;> rfl, by first | rfl | trivial⟩
 have c1' : ¬ (194 ≤ b0 ∧ b0 ≤ 223) := by omega
 have f1 : ¬ (b0 / 32 = 6) := by omega
 simp only [c1', f1, ↓reduceIte, false_and]
 by_cases c2 : 224 ≤ b0 ∧ b0 ≤ 239
 ·have f2 : b0 / 16 = 14 := by omega
  simp only [c2, f2, ↓reduceIte, true_and, and_self]; by_cases p1 : q1
  ·by_cases p2 : q2 ∧ 128 ≤ b2 ∧ b2 ≤ 191
   ·simp only [p1, p2, true_and, and_true, and_self]
    by_cases g : ((if b0 = 224 then 160 else 128) ≤ b1 ∧ b1 ≤ (if b0 = 237 then 159 else 191))
    ·have g' := g
     split at g' <;> split at g'
     all_goals
      have g1 : 128 ≤ b1 ∧ b1 ≤ 191 := by omega
      have g2 : b0 % 16 * 4096 + b1 % 64 * 64 + b2 % 64 ≥ 2048 ∧ ¬ (55296 ≤ b0 % 16 * 4096 + b1 % 64 * 64 + b2 % 64 ∧ b0 % 16 * 4096 + b1 % 64 * 64 + b2 % 64 ≤ 57343) := by omega
      rw [qw g, qw g1, qw g2]; right; exact ⟨by omega, rfl, fun _ => by simp⟩
    ·rw [qk g]
     left; refine ⟨rfl, ?_⟩; split
     ·rename_i g1
      rw [qk]; intro g2; apply g; split <;> split <;> omega
     ·split
      ·rename_i h8; omega
      ·rfl
   ·have f3 : ¬ (b0 / 8 = 30) := by omega
    simp only [p2, f3, and_false, false_and, ↓reduceIte]; left; exact ⟨by first | rfl | trivial, by first | rfl | trivial⟩
  ·have f3 : ¬ (b0 / 8 = 30) := by omega
   simp only [p1, f3, false_and, ↓reduceIte]; left; exact ⟨by first | rfl | trivial, by first | rfl | trivial⟩
 have f2 : ¬ (b0 / 16 = 14) := by omega
 simp only [c2, f2, ↓reduceIte, false_and]
 by_cases c3 : 240 ≤ b0 ∧ b0 ≤ 247
 ·have f3 : b0 / 8 = 30 := by omega
  simp only [f3, true_and]; by_cases p1 : q1
  ·by_cases p2 : q2 ∧ 128 ≤ b2 ∧ b2 ≤ 191
   ·by_cases p3 : q3 ∧ 128 ≤ b3 ∧ b3 ≤ 191
    ·simp only [p1, p2, p3, true_and, and_true, and_self]
     by_cases g : 240 ≤ b0 ∧ b0 ≤ 244 ∧ ((if b0 = 240 then 144 else 128) ≤ b1 ∧ b1 ≤ (if b0 = 244 then 143 else 191))
     ·obtain ⟨ga, gb, g⟩ := g
      have g' := g; rw [qw ⟨ga, gb⟩, qw g]; split at g' <;> split at g'
      all_goals
       have g1 : 128 ≤ b1 ∧ b1 ≤ 191 := by omega
       have g2 : b0 % 8 * 262144 + b1 % 64 * 4096 + b2 % 64 * 64 + b3 % 64 ≥ 65536 ∧ b0 % 8 * 262144 + b1 % 64 * 4096 + b2 % 64 * 64 + b3 % 64 ≤ 1114111 := by omega
       rw [qw g1, qw g2]; right; exact ⟨by omega, rfl, fun _ => by simp⟩
     ·left
      constructor
      ·split
       ·rw [qk]; intro h; exact g ⟨by omega, by omega, h⟩
       ·rfl
      ·split
       ·rename_i g1
        rw [qk]; intro g2; apply g; refine ⟨by omega, by omega, ?_⟩; split <;> split <;> omega
       ·rfl
    ·simp only [p3, and_false, ↓reduceIte]
     left; exact ⟨by split <;> rfl, by first | rfl | trivial⟩
   ·simp only [p2, and_false, false_and, ↓reduceIte]
    left; exact ⟨by split <;> rfl, by first | rfl | trivial⟩
  ·simp only [p1, false_and, ↓reduceIte]
   left; exact ⟨by split <;> rfl, by first | rfl | trivial⟩
 ·have f3 : ¬ (b0 / 8 = 30) := by omega
  have c3' : ¬ (240 ≤ b0 ∧ b0 ≤ 244) := by omega
  simp only [f3, c3', ↓reduceIte, false_and]; left; exact ⟨by first | rfl | trivial, by first | rfl | trivial⟩
theorem afe {α : Type} {c d : Prop} [Decidable c] [Decidable d] {a a' b b' : α} (h : c ↔ d) (ha : a = a') (hb : b = b') : (if c then a else b) = (if d then a' else b') := by
 by_cases hd : d
 ·rw [qw hd, qw (h.2 hd), ha]
 ·rw [qk hd, qk (fun hc => hd (h.1 hc)), hb]
theorem as1 (s : ByteArray) (pos : Nat) (A : Nat → Nat) (hA : ∀ k, A k = (s.get! (pos + k)).toNat) :
 Utf8.decode s pos = D8 (A 0) (A 1) (A 2) (A 3) (pos + 1 < s.size ∧ 128 ≤ A 1 ∧ A 1 ≤ 191) (pos + 2 < s.size ∧ 128 ≤ A 2 ∧ A 2 ≤ 191) (pos + 3 < s.size ∧ 128 ≤ A 3 ∧ A 3 ≤ 191) := by
 have hlt : ∀ k, A k < 256 := fun k => by rw [hA]; exact (s.get! (pos + k)).toNat_lt
 have l0 := hlt 0; have l1 := hlt 1; have l2 := hlt 2; have l3 := hlt 3
 unfold Utf8.decode D8 Utf8.runeError
 simp only [← hA]
 refine afe Iff.rfl rfl (afe ?_ rfl (afe ?_ (afe ?_ rfl rfl) (afe ?_ (afe ?_ rfl rfl) rfl)))
 ·simp only [jj, beq_iff_eq, qm]; omega
 ·simp only [jj, beq_iff_eq, qm]; omega
 ·unfold Utf8.valid; simp only [jj, Bool.or_eq_true, beq_iff_eq, qm]; omega
 ·simp only [jj, beq_iff_eq, qm]; omega
 ·unfold Utf8.valid; simp only [jj, Bool.or_eq_true, beq_iff_eq, qm]; omega
theorem bbd (s : ByteArray) (pos : Nat) (h : pos < s.size) (A : Nat → Nat) (hA : ∀ k, A k = (s.get! (pos + k)).toNat) :
 u8n (s.data.toList.drop pos) = U8 (A 0) (A 1) (A 2) (A 3) (pos + 1 < s.size) (pos + 2 < s.size) (pos + 3 < s.size) := by
 rw [bbc s pos h A hA]
 unfold U8 ctA
 simp only [jj, qm]
theorem aq6 (s : ByteArray) (pos : Nat) (h : pos < s.size) :
 (u8n (s.data.toList.drop pos) = 0 ∧ Utf8.decode s pos = (65533, 1)) ∨
 (u8n (s.data.toList.drop pos) ≠ 0 ∧ (Utf8.decode s pos).2 = u8n (s.data.toList.drop pos) ∧ ((Utf8.decode s pos).1 = 65533 → (Utf8.decode s pos).2 ≠ 1)) := by
 have hA : ∀ k, (fun k => (s.get! (pos + k)).toNat) k = (s.get! (pos + k)).toNat := fun _ => rfl
 rw [bbd s pos h _ hA, as1 s pos _ hA]
 exact bcr _ _ _ _ _ _ _ (s.get! (pos + 0)).toNat_lt
open Go.RowKit Go.Shelf Tryz
def bcs : Go.Shelf.Ren := ⟨fun | 197 => 222 | 260 => 223 | n => n, fun | 9 => 9 | 21 => 21 | 3 => 3 | 4 => 4 | 5 => 5 | 105 => 248 | 119 => 251 | 0 => 0 | 46 => 218 | 139 => 254 | 138 => 253 | n => n, fun | 3 => 1 | 4 => 2 | n => n⟩
theorem ayd : Go.Proofs.Lays.n197 prog bcs := {
 mixed := by kernel_rfl
 f197 := func222.trans (congrArg some (by kernel_rfl))
 f260 := func223.trans (congrArg some (by kernel_rfl))
 t0 := underlying0
 a0 := isAgg0
 z0 := sizeOf0
 v0 := zeroValue0
 t3 := underlying3
 a3 := isAgg3
 z3 := sizeOf3
 v3 := zeroValue3
 t4 := underlying4
 a4 := isAgg4
 z4 := sizeOf4
 v4 := zeroValue4
 t5 := underlying5
 a5 := isAgg5
 z5 := sizeOf5
 v5 := zeroValue5
 t9 := underlying9
 a9 := isAgg9
 z9 := sizeOf9
 v9 := zeroValue9
 t21 := underlying21
 a21 := isAgg21
 z21 := sizeOf21
 v21 := zeroValue21
 t46 := underlying218
 a46 := isAgg218
 z46 := sizeOf218
 v46 := zeroValue218
 t105 := underlying248
 a105 := isAgg248
 z105 := sizeOf248
 v105 := zeroValue248
 t119 := underlying251
 a119 := isAgg251
 z119 := sizeOf251
 t138 := underlying253
 a138 := isAgg253
 z138 := sizeOf253
 v138 := zeroValue253
 t139 := underlying254
 a139 := isAgg254
 z139 := sizeOf254
 v139 := zeroValue254
 g3 := by kernel_rfl
 g4 := by kernel_rfl }
def Tb (w : World) : Prop := Lib.Utf8Tabs 1 2 w
theorem Tb.pure {w w' : World} (h : Tb w) (hB : Below w.heap.size w w') : Tb w' := by
 refine ⟨fun c hc => ?_, fun i hi => ?_⟩
 ·have := h.1 c hc
  rw [hB.cell (World.block_lt_of_cell? w _ this)]; exact this
 ·have := h.2 i hi
  exact ⟨by rw [hB.cell (World.block_lt_of_cell? w _ this.1)]; exact this.1, by rw [hB.cell (World.block_lt_of_cell? w _ this.2)]; exact this.2⟩
theorem aq7 (s : ByteArray) (w : World) (hT : Tb w) :
 Calls prog 222 #[.string s] w fun e w' => e = .returned (.tuple #[.int .i32 (Lib.decodeGo s).1, .int .i64 (Lib.decodeGo s).2]) ∧ Below w.heap.size w w' := Any.utf8_DecodeRuneInString ayd s w hT
theorem aoq (s : ByteArray) (pos : Nat) (h : pos < s.size) : Lib.decodeGo (s.extract pos s.size) = Utf8.decode s pos := by
 unfold Lib.decodeGo
 have hs : (s.extract pos s.size).size ≠ 0 := by simp; omega
 rw [qk hs, Lib.tail_decode, Nat.add_zero]
theorem aor (s : ByteArray) (pos : Nat) (h : ¬ pos < s.size) : u8 (s.data.toList.drop pos) = true := by
 rw [List.drop_eq_nil_of_le (by rw [acj]; omega)]; rfl
theorem aq8 (s : ByteArray) (pos : Nat) (h : pos < s.size) (hn : u8n (s.data.toList.drop pos) = 0) : u8 (s.data.toList.drop pos) = false := by
 have hl : pos < s.data.toList.length := by rw [acj]; exact h
 rw [List.drop_eq_getElem_cons hl] at hn ⊢
 exact bcm hn
theorem aos (s : ByteArray) (pos : Nat) (h : pos < s.size) (hn : u8n (s.data.toList.drop pos) ≠ 0) : u8 (s.data.toList.drop (pos + u8n (s.data.toList.drop pos))) = u8 (s.data.toList.drop pos) := by
 have hl : pos < s.data.toList.length := by rw [acj]; exact h
 rw [← List.drop_drop]
 rw [List.drop_eq_getElem_cons hl] at hn ⊢
 exact (bar hn).symm
theorem World.iterPos_of {w : World} {k : Nat} {s : ByteArray} {p : Nat} (h : w.heap[k]? = some (.stringIter s p)) : w.iterPos k = p := by simp [World.iterPos, h]
theorem aek {P : Prop} (h : P := by
 go_wp2
 go_ret
 exact ⟨by rw [hres.out]; rfl, hB⟩) : P := h
theorem am5 (s : ByteArray) (w : World) (hs : (s.size : Int) ≤ 9223372036854775807) (hT : Tb w) :
 Calls prog 216 #[.string s] w fun e w' => e = .returned (.bool (u8s s)) ∧ Below w.heap.size w w' := by
 obtain ⟨tot, htot⟩ := zz (u8s s)
 have htot' : Hid (u8 (s.data.toList.drop 0) = tot) := qq (by rw [List.drop_zero]; exact htot)
 rw [htot]
 clear htot
 have hB0 := (qz w.heap.size w).alloc (qj _) (.stringIter s 0)
 have hi0 : (w.alloc (.stringIter s 0)).heap[w.heap.size]? = some (.stringIter s 0) := World.iter_heap w s 0
 go_enter func216, ntmps216
 go_wp2
 go_loopw [2] (fun s2 wr => s2 = .bool false ∧ ∃ pos : Nat, Hid (u8 (s.data.toList.drop pos) = tot) ∧ Hid (wr.heap[w.heap.size]? = some (.stringIter s pos)) ∧ Below w.heap.size w wr) (fun _ wr => s.size - wr.iterPos w.heap.size)
 case atStart => exact ⟨rfl, 0, htot', qq hi0, hB0⟩
 case round =>
  clear hi0 hB0; obtain ⟨rfl, pos, hu, hit, hB⟩ := hrel; by_cases hlt : pos < s.size
  ·have hcase := aq6 s pos hlt
   have hdc0 := aq7 (s.extract pos s.size) (wr.iterAt w.heap.size s (pos + (Utf8.decode s pos).2)) (hT.pure (Lib.below_iterAt hB (qj _) s _)); rw [aoq s pos hlt] at hdc0; have hnx0 := fun ty => Lib.run_next_any_at (P := prog) wr w.heap.size s pos ty hit.out hlt
   obtain ⟨d, hd⟩ := zz (Utf8.decode s pos); rw [hd] at hcase hdc0; simp only [hd] at hnx0; obtain ⟨c, n⟩ := d; dsimp only at hcase hdc0 hnx0; have hnx := hnx0; have hdc := qq hdc0; have hBi := Lib.below_iterAt hB (qj _) s (pos + n); have hii := qq (Lib.iterAt_heap wr w.heap.size s pos (pos + n) hit.out); have hip := qq (World.iterPos_of hit.out); clear hdc0 hnx0 hd hT; rcases hcase with ⟨h0, h1⟩ | ⟨h0, h1, h2⟩
   ·simp only [jm] at h1
    obtain ⟨rfl, rfl⟩ := h1; have hres := qq (show tot = false by rw [← hu.out]; exact aq8 s pos hlt h0); clear h0; go_wp2_with (go_at_call 222; (with_reducible refine hdc.out.mono ?_); rintro e w1 ⟨rfl, hB1⟩); go_ret; exact ⟨by rw [hres.out]; rfl, hBi.trans (hB1.mono hBi.size)⟩
   ·have hyes := aos s pos hlt h0
    rw [← h1] at hyes; have hpos : 1 ≤ n := by omega
    have hnext := qq (hyes.trans hu.out); clear hyes h0 h1; by_cases hc : c = 65533
    ·subst hc
     have hn1 : ((n : Int) == 1) = false := ju.2 (by have := h2 rfl; omega); clear h2; go_wp2_with (go_at_call 222; (with_reducible refine hdc.out.mono ?_); rintro e w1 ⟨rfl, hB1⟩); have hi1 : w1.heap[w.heap.size]? = some (.stringIter s (pos + n)) := (hB1.block w.heap.size (Array.getElem?_eq_some_iff.1 hii.out).1).trans hii.out; have hip1 := World.iterPos_of hi1; go_roundw
     case rel => exact ⟨rfl, pos + n, hnext, qq hi1, hBi.trans (hB1.mono hBi.size)⟩
     case measure => rw [hip1, hip.out]; omega
    ·have hcb : ((c : Int) == 65533) = false := ju.2 (by omega)
     clear h2 hc; go_wp2; have hip1 := World.iterPos_of hii.out; go_roundw
     case rel => exact ⟨rfl, pos + n, hnext, hii, hBi⟩
     case measure => rw [hip1, hip.out]; omega
  ·have hnx := fun ty => Lib.run_next_end_at (P := prog) wr w.heap.size s pos ty hit.out hlt
   have hres := qq (show tot = true by rw [← hu.out]; exact aor s pos hlt); exact aek
def okB (A : Nat → Nat) (lo hi k : Nat) : Prop := (if k = 1 then lo else 128) ≤ A k ∧ A k ≤ (if k = 1 then hi else 191)
open Go.RowKit Go.ChangeMaps Go.MapKept Tryz
open Go.Maps (Keyed)
structure MapT (P : Program) (t k e : TypeId) {κ ε : Type} (kv : κ → Value) (kl : κ → Lit) (ok : κ → Prop) (ev : ε → Value) (dec : Value → Option ε) (z : ε) : Prop where
 ht : P.underlying t = some (.map k e)
 K : Keyed P k
 hkey : ∀ x, ok x → keyOf P k (kv x) = some (kl x)
 inj : ∀ x y, ok x → ok y → kl x = kl y → x = y
 de : ∀ y, dec (ev y) = some y
 ed : ∀ v y, dec v = some y → v = ev y
 hz : ∀ w, (zeroValue e).run P w = .ok (ev z) w
def avp {ε : Type} (dec : Value → Option ε) (v : Value) : Option (DataW ε × List MemPlace) := (dec v).map (fun y => (.held y, []))
def MapG {κ ε : Type} (P : Program) (k : TypeId) (kl : κ → Lit) (ok : κ → Prop) (dec : Value → Option ε) (w : World) (b : Nat) (h : κ → Option ε) (cnt : Nat) : Prop :=
 ∃ D : DataW ε, w.ownsMap P k (avp dec) b cnt D ∧ Maps.size D = cnt ∧ ∀ x, ok x → Maps.has D (kl x) = (h x).isSome ∧ ∀ y, h x = some y → ∀ z, D.atKey (kl x) z = .held y
theorem bbe {H : Type} {P : Program} {k : TypeId} {R : Value → Option (DataW H × List MemPlace)} {w : World} {b n : Nat} {D : DataW H} (h : w.ownsMap P k R b n D) : w.ownsMap P k R b (Maps.size D) D := by
 obtain ⟨es, clock, hb, F, hs, rfl⟩ := h
 exact ⟨es, clock, hb, F, by simp [Maps.size, length_sorted], rfl⟩
section
variable {κ ε : Type} {P : Program} {t k e : TypeId} {kv : κ → Value} {kl : κ → Lit} {ok : κ → Prop} {ev : ε → Value} {dec : Value → Option ε} {z : ε} {w w' : World} {b cnt : Nat} {h : κ → Option ε}
theorem MapG.made (w : World) : MapG P k kl ok dec (w.alloc (.map #[] 0)) w.heap.size (fun _ => none) 0 :=
 ⟨_, World.ownsMap_made w P k (avp dec), rfl, fun x _ => ⟨rfl, fun _ h => by cases h⟩⟩
theorem MapG.lt (m : MapG P k kl ok dec w b h cnt) : b < w.heap.size := by obtain ⟨D, h, _⟩ := m; exact h.lt
theorem MapG.keep (m : MapG P k kl ok dec w b h cnt) (hk : w'.heap[b]? = w.heap[b]?) : MapG P k kl ok dec w' b h cnt := by
 obtain ⟨D, ⟨es, clock, hb, r⟩, r2⟩ := m
 exact ⟨D, ⟨es, clock, hk.trans hb, r⟩, r2⟩
theorem MapG.upd {S : Nat → Prop} (m : MapG P k kl ok dec w b h cnt) (hu : Upd S w w') (hs : ¬ S b) : MapG P k kl ok dec w' b h cnt := m.keep (hu.block b m.lt hs)
theorem MapG.pure (m : MapG P k kl ok dec w b h cnt) (hu : Below w.heap.size w w') : MapG P k kl ok dec w' b h cnt := m.keep (hu.block b m.lt)
theorem MapG.alloc (m : MapG P k kl ok dec w b h cnt) (o : Obj) : MapG P k kl ok dec (w.alloc o) b h cnt := m.pure ((qz _ _).alloc (qj _) _)
theorem MapG.other (m : MapG P k kl ok dec w b h cnt) (p : Addr) (u : Value) (hne : b ≠ p.block) : MapG P k kl ok dec (w.setCell p u) b h cnt := m.keep (Below.heap_setCell _ _ _ _ hne)
theorem MapG.ext {h' : κ → Option ε} (m : MapG P k kl ok dec w b h cnt) (he : ∀ x, ok x → h' x = h x) : MapG P k kl ok dec w b h' cnt := by
 obtain ⟨D, h1, h2, h3⟩ := m
 exact ⟨D, h1, h2, fun x hx => by rw [he x hx]; exact h3 x hx⟩
theorem MapT.isKey (T : MapT P t k e kv kl ok ev dec z) {x : κ} (hx : ok x) : WideAt.IsKeyLit (kl x) := T.K.key (T.hkey x hx)
theorem MapG.elem (T : MapT P t k e kv kl ok ev dec z) {x : κ} {D : DataW ε} (hd : Maps.has D (kl x) = (h x).isSome ∧ ∀ y, h x = some y → ∀ z, D.atKey (kl x) z = .held y) {v : Value} {ps : List MemPlace}
 (hv : avp dec v = some (D.atKey (kl x) (.held z), ps)) : v = ev ((h x).getD z) := by
 unfold avp at hv
 cases hdec : dec v with
 | none => rw [hdec] at hv; cases hv
 | some y =>
  rw [hdec] at hv; simp only [Option.map_some, jy, jm] at hv; rw [T.ed v y hdec]; congr 1
  cases hh : h x with
  | none =>
   have : Maps.has D (kl x) = false := by rw [hd.1, hh]; rfl
   have e1 := Maps.atKey_of_not_has this (.held z); rw [e1] at hv; injection hv.1
  | some y' =>
   have e1 := hd.2 y' hh (.held z); rw [e1] at hv; injection hv.1
variable [DecidableEq κ]
theorem MapG.put_law (T : MapT P t k e kv kl ok ev dec z) {D : DataW ε} {n : Nat} (hO : w.ownsMap P k (avp dec) b n D) (hd : ∀ x, ok x → Maps.has D (kl x) = (h x).isSome ∧ ∀ y, h x = some y → ∀ z, D.atKey (kl x) z = .held y) {x : κ} (hx : ok x) (y : ε) :
 ∀ u, ok u → Maps.has (D.put (kl x) (.held y)) (kl u) = (if u = x then some y else h u).isSome ∧ ∀ y', (if u = x then some y else h u) = some y' → ∀ z, (D.put (kl x) (.held y)).atKey (kl u) z = .held y' := by
 intro u hu
 by_cases hux : u = x
 ·subst hux
  rw [qw rfl]; refine ⟨Maps.has_put_same hO.isMap (T.isKey hu) _, ?_⟩; intro y' hy z'; injection hy with hy; subst hy; exact Maps.atKey_put_same hO.isMap (T.isKey hu) _ _
 ·rw [qk hux]
  have hne : kl u ≠ kl x := fun e => hux (T.inj u x hu hx e)
  refine ⟨(Maps.has_put_other hne _).trans (hd u hu).1, fun y' hy z' => ?_⟩; rw [Maps.atKey_put_other hne]; exact (hd u hu).2 y' hy z'
end
section
variable {κ ε : Type} {P : Program} {t k e : TypeId} {kv : κ → Value} {kl : κ → Lit} {ok : κ → Prop} {ev : ε → Value} {dec : Value → Option ε} {z : ε}
variable (w : World) {ops : Array Oper} {rest : List Oper} {o : Oper} {a : Act} {Q : Exit → Act → World → Prop} {b cnt : Nat} {h : κ → Option ε}
variable [DecidableEq κ]
theorem aot (T : MapT P t k e kv kl ok ev dec z) (hg : o.guard = none) (m x v : Operand) (hop : o.op = Op.mapUpdate t m x v) (hm : a.eval m = .map (some b)) (M : MapG P k kl ok dec w b h cnt) (hn : cnt < maxLen) (u : κ) (y : ε) (hx : a.eval x = kv u) (hv : a.eval v = ev y) (hu : ok u)
 (hK : ∀ w', MapG P k kl ok dec w' b (fun i => if i = u then some y else h i) (if (h u).isSome then cnt else cnt + 1) → w.grownBy w' (some b) → wpList P ops Q rest (a.put o.dst undef) w') : wpList P ops Q (o :: rest) a w := by
 obtain ⟨D, h1, h2, h3⟩ := M
 refine wpList_mapUpdate_own w hg m x v t hop k e T.K T.ht (avp dec) b cnt D hm h1 hn (kv u) (ev y) (kl u) hx hv (T.hkey u hu) (.held y) [] (by simp [avp, T.de]) ?_
 intro w' g1 g2
 have hsz := Maps.size_put (k := kl u) (h1.tidy T.K) (.held y)
 refine hK w' ⟨_, ?_, ?_, MapG.put_law T h1 h3 hu y⟩ g2
 ·have g3 := bbe g1
  rw [hsz, (h3 u hu).1, h2] at g3; exact g3
 ·rw [hsz, (h3 u hu).1, h2]
end
end Go.Proofs.YtgnaifhmcllnlaaGreatDoor
