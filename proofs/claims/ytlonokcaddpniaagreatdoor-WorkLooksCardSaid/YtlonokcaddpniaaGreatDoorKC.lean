/- Values as they lie in memory. Conditions: none. (Texts joined.) -/
import Derived.Test.YtlonokcaddpniaaGreatDoorProg
import Derived.Test.YtlonokcaddpniaaGreatDoorKA
import Derived.Test.YtlonokcaddpniaaGreatDoorVal
import Derived.Lib.AppendStr
import Derived.OwnWalk
import Derived.IntWalk
import Derived.Deep.Cut
import Derived.Deep.RegionHeld3
import Derived.RegionTactic
import Derived.Laws.BytesString
import Derived.Laws.IdiomStrings
import Derived.Outline
set_option linter.unusedSimpArgs false
set_option linter.unusedVariables false
namespace Go.Proofs.YtlonokcaddpniaaGreatDoor
open Go.RowKit
/-- No longer than 2^46. -/
def Big (n : Nat) : Prop := n ≤ 70368744177664
theorem Big.le {n : Nat} (h : Big n) : n ≤ 70368744177664 := h
theorem Big.mono {n m : Nat} (h : Big n) (k : m ≤ n) : Big m := Nat.le_trans k h
def byEnc (c : UInt8) : List Value := [.int .u8 c.toNat]
theorem byEnc_len (c : UInt8) : (byEnc c).length = 1 := rfl
theorem byEnc_one (c : UInt8) : ∀ u ∈ byEnc c, u.oneCell' = true := by simp [byEnc, Value.oneCell']
theorem info_byte : (Tryz.prog.info? 5).map (fun i => (i.zero, i.size, i.bytes)) = some (some (.int .u8 0), 1, 1) := by kernel_rfl
theorem elem_byZ : ElemZ Tryz.prog 114 5 1 1 (byEnc 0) := ElemZ.mk' Tryz.underlying114 info_byte rfl (by omega) rfl
theorem elem_by : ElemT Tryz.prog 114 5 1 1 := elem_byZ.toT
theorem by_flat (s : ByteArray) : s.data.toList.flatMap byEnc = Lib.strCells s := by
  unfold Lib.strCells byEnc
  induction s.data.toList with
  | nil => rfl
  | cons x xs ih => rw [List.flatMap_cons, List.map_cons, ih]; rfl
section
variable {P : Program} {w : World} {ops : Array Oper} {rest : List Oper} {o : Oper} {a : Act} {Q : Exit → Act → World → Prop}
/-- append of a string. -/
theorem wpList_appS {base : Nat} (hgd : o.guard = none) (sl x : Operand) (ho : o.op = .call { callee := .builtin .append, args := #[sl, x], argTypes := #[114, 9] })
    (v : Value) (L : List UInt8) (hs : a.eval sl = v) (hown : Own base 5 1 byEnc w v L) (s : ByteArray) (hx : a.eval x = .string s)
    (h63 : L.length + s.size ≤ 140737488355328) (hbase : base ≤ w.heap.size)
    (h : ∀ v' w', Own base 5 1 byEnc w' v' (L ++ s.data.toList) → w.grownBy w' v.ownBlock → wpList Tryz.prog ops Q rest (a.put o.dst v') w') : wpList Tryz.prog ops Q (o :: rest) a w := by
  obtain ⟨i, h1, h2, h3, h4⟩ := info_parts info_byte; refine Lib.wpList_append_own_string w hgd sl x 114 9 ho base 5 i Tryz.underlying114 Tryz.underlying9 h1 h2 h3 h4 v L.length (L.flatMap byEnc) hs hown s hx (by unfold maxLen; omega) h63 hbase ?_; intro v' w' q1 q2 _; refine h v' w' ?_ q2; unfold Own; rw [List.length_append, ba_len, List.flatMap_append, by_flat]; exact q1
/-- make of no elements, with room. -/
theorem wpList_mkr {base : Nat} (hgd : o.guard = none) (l c : Operand) (ho : o.op = Op.makeSlice 114 l c) (kl kc : IntKind) (C : Int) (n : Nat) (hl : a.eval l = .int kl 0) (hc : a.eval c = .int kc C) (hC : C = (n : Int))
    (hn : n ≤ 140737488355328) (hbase : base ≤ w.heap.size)
    (h : ∀ w', Own base 5 1 byEnc w' (.slice (some ⟨w.heap.size, 0, none⟩) 0 n) ([] : List UInt8) → w.grownBy w' none → wpList Tryz.prog ops Q rest (a.put o.dst (.slice (some ⟨w.heap.size, 0, none⟩) 0 n)) w') : wpList Tryz.prog ops Q (o :: rest) a w := by
  obtain ⟨i, h1, h2, h3, h4⟩ := info_parts info_byte; exact wpList_make_own w hgd l c 114 ho base 5 i _ 1 Tryz.underlying114 h1 h2 h3 kl kc C n hl hc hC (by rw [h4]; omega) (by unfold maxLen; omega) hbase (fun w' q1 q2 => h w' q1 q2)
end
theorem Slc.other {α : Type} {enc : α → List Value} {m : Nat} {w : World} {v : Value} {L : List α} (h : Slc enc m w v L) (p : Addr) (u : Value) (hne : ∀ k, v.ownBlock = some k → k ≠ p.block) : Slc enc m (w.setCell p u) v L :=
  h.upd (Upd.set (S := fun k => k = p.block) rfl u) (fun k hk e => hne k hk e)
theorem own_lenB {α : Type} {enc : α → List Value} {m base : Nat} {e : TypeId} {w : World} {v : Value} {L : List α} (h : Own base e m enc w v L) : ∃ a c, v = .slice a L.length c := by
  rcases h.cases with ⟨rfl, rfl⟩ | ⟨g, cap, rfl, _⟩
  · exact ⟨none, 0, rfl⟩
  · exact ⟨_, _, rfl⟩
/-- A literal slice of one byte. -/
theorem Own.byte1 (w : World) (c : UInt8) (x : Int) (hx : x = (c.toNat : Int)) {base : Nat} (hb : base ≤ w.heap.size) : Own base 5 1 byEnc (w.alloc (.cells #[.int .u8 x] 5)) (.slice (some ⟨w.heap.size, 0, none⟩) 1 1) [c] :=
  ⟨by simp [byEnc], .inr ⟨w.heap.size, 1, #[.int .u8 x], rfl, hb, heap_alloc_new w _, by simp, by unfold maxLen; omega, by simp, by subst hx; simp [byEnc]⟩⟩
/-- string of bytes. -/
theorem conv_str (w : World) (v : Value) (L : List UInt8) (h : Slc byEnc 1 w v L) : (convert 114 9 v).run Tryz.prog w = .ok (.string ⟨L.toArray⟩) w := by
  rcases h with ⟨a, cap, rfl, hcap, rfl⟩ | ⟨g, off, cap, rfl, hc1, hc2, hcell⟩
  · rw [run_convert_bytes_string w _ _ _ _ _ _ Tryz.underlying114 Tryz.underlying5 Tryz.underlying9]
    cases a with
    | none => simp [Conv.bytesToString]; rfl
    | some a =>
      rw [run_bytesToString (P := Tryz.prog) w a 0 cap [] (by
        have := run_loadCells_list (P := Tryz.prog) w a [] (fun j v hj => by simp at hj)
        simpa using this)]
      rfl
  · refine run_convert_bytes_back w _ _ _ _ cap L Tryz.underlying114 Tryz.underlying5 Tryz.underlying9 (fun j hj => ?_); have h1 := hcell j hj 0 (.int .u8 L[j].toNat) rfl; have e : (⟨g, off, none⟩ : Addr).add j = ⟨g, off + j, none⟩ := by unfold Addr.add; split <;> simp_all
    rw [e]; simpa using h1
def Wd (n : Int) : Prop := n = 1 ∨ n = 2 ∨ n = 4 ∨ n = 8
theorem wide_yes (n : Int) (w : World) (h : Wd n) : Calls Tryz.prog 107 #[.int .i64 n] w fun e w' => e = .returned (.bool true) ∧ w = w' := by
  rcases h with rfl | rfl | rfl | rfl
  all_goals
    go_enter Tryz.func107, Tryz.ntmps107; go_wp2; go_ret; exact ⟨rfl, rfl⟩
theorem by_eql_nil (w : World) (a : Option Addr) (n c : Nat) : (binOp .eql 114 (.slice a n c) (.slice none 0 0)).run Tryz.prog w = .ok (.bool a.isNone) w := Lib.run_eql_slice_nil w _ _ a n c 0 0 Tryz.underlying114
set_option maxRecDepth 100000 in
/-- bytes.Clone. -/
theorem bclone_any (w : World) (v : Value) (L : List UInt8) (h : Slc byEnc 1 w v L) (hL : Big L.length) :
    Calls Tryz.prog 114 #[v] w fun e w' => ∃ r, e = .returned r ∧ Own w.heap.size 5 1 byEnc w' r L ∧ Below w.heap.size w w' := by
  obtain ⟨a, cap, rfl, -⟩ := h.len
  cases a with
  | none =>
    have hnil := fun w => by_eql_nil w none 0 cap
    have hn : L.length = 0 := by
      rcases h with ⟨_, _, h1, _, h2⟩ | ⟨_, _, _, h1, _⟩
      · rw [h2]; rfl
      · simp at h1
    have hl0 := List.length_eq_zero_iff.1 hn; subst hl0; go_enter Tryz.func114, Tryz.ntmps114; go_wp2; go_ret; exact ⟨_, rfl, Own.nil, Below.refl _ _⟩
  | some a =>
    have hnil := fun w => by_eql_nil w (some a) L.length cap
    have hB0 := (Below.refl w.heap.size w).alloc (Nat.le_refl _) (.cells #[] 5); have hS := h.pure hB0; have hO := Own.made0 (enc := byEnc) (m := 1) w 5 (Nat.le_refl w.heap.size); go_enter Tryz.func114, Tryz.ntmps114; go_wp2_with (at_builtin; refine wpList_app (base := w.heap.size) rfl (.tmp 5) (.tmp 6) 114 5 rfl elem_by byEnc_len byEnc_one _ [] rfl hO _ L rfl hS (by have := hL.le; simp; unfold maxLen; omega) (by have := hL.le; simp; omega) (by simp) ?_; intro v' w1 hO1 hgr hfr hsh); go_ret; exact ⟨_, rfl, hO1, hB0.grown hgr (by simp) (fun j e => by cases e; exact Nat.le_refl _)⟩
theorem be_cons : ∀ (k n : Nat), be (k + 1) n = UInt8.ofNat (n / 256 ^ k % 256) :: be k n
  | 0, n => by unfold be be; simp
  | k + 1, n => by
    have h := be_cons k (n / 256); rw [show be (k + 1 + 1) n = be (k + 1) (n / 256) ++ [UInt8.ofNat (n % 256)] from rfl, h, show be (k + 1) n = be k (n / 256) ++ [UInt8.ofNat (n % 256)] from rfl]; rw [Nat.div_div_eq_div_mul, show 256 * 256 ^ k = 256 ^ (k + 1) by rw [Nat.pow_succ, Nat.mul_comm]]; rfl
theorem be_set (wd k n : Nat) (h : k < wd) (x : UInt8) (hx : x = UInt8.ofNat (n / 256 ^ k % 256)) : (List.replicate (wd - k) 0 ++ be k n).set (wd - 1 - k) x = List.replicate (wd - (k + 1)) 0 ++ be (k + 1) n := by
  rw [be_cons, hx, show wd - k = wd - (k + 1) + 1 by omega, List.replicate_succ', List.append_assoc, List.set_append_right _ _ (by simp; omega)]; simp [show wd - 1 - k - (wd - (k + 1)) = 0 by omega]
set_option maxRecDepth 100000 in
set_option maxHeartbeats 1600000 in
theorem number_any (w : World) (n : Int) (wd : Nat) (hn : 0 ≤ n) (hw : Wd wd) :
    Calls Tryz.prog 109 #[.int .u64 n, .int .i64 wd] w fun e w' => ∃ r, e = .returned r ∧ Own w.heap.size 5 1 byEnc w' r (be wd n.toNat) ∧ Below w.heap.size w w' := by
  have hwd : 1 ≤ wd ∧ wd ≤ 8 := by unfold Wd at hw; omega
  obtain ⟨hw1, hw8⟩ := hwd; clear hw; go_enter Tryz.func109, Tryz.ntmps109; go_wp2_with (at_make; refine wpList_mk rfl _ _ 114 5 rfl (0 : UInt8) elem_byZ byEnc_len .i64 .i64 _ _ wd rfl rfl rfl rfl (by omega) (by unfold maxLen; omega) (Nat.le_refl _) ?_; intro w1 hO1 hgr); have hB1 := (Below.refl w.heap.size w).grown hgr (Nat.le_refl _) (fun j e => by cases e); go_loopw [11] (fun s11 wr => ∃ k : Nat, k ≤ wd ∧ s11 = .int .i64 k ∧ Own w.heap.size 5 1 byEnc wr (.slice (some ⟨w.heap.size, 0, none⟩) wd wd) (List.replicate (wd - k) 0 ++ be k n.toNat) ∧ Below w.heap.size w wr) (fun s11 _ => wd - (intOf s11).toNat)
  case atStart => exact ⟨0, by omega, rfl, by unfold be; simpa using hO1, hB1⟩
  case round =>
    obtain ⟨k, hk, rfl, hO, hB⟩ := hrel; by_cases hlt : k < wd
    · have h0 : (0 : Int) ≤ (k : Int) := by omega
      have h1 : (k : Int) < (wd : Int) := by omega
      have hf := hO.frozen (wd - 1 - k); have hlen : (List.replicate (wd - k) (0 : UInt8) ++ be k n.toNat).length = wd := by rw [List.length_append, List.length_replicate, be_len]; omega
      have hc := hO.cell byEnc_len (wd - 1 - k) (by rw [hlen]; omega) 0 _ rfl; rw [Nat.mul_one, Nat.add_zero] at hc
      have hx : n / 2 ^ (8 * k) % 256 = ((UInt8.ofNat (n.toNat / 256 ^ k % 256)).toNat : Int) := by
        obtain ⟨m, rfl⟩ := Int.eq_ofNat_of_zero_le hn; rw [UInt8.toNat_ofNat', Nat.mod_mod, Int.toNat_natCast, show (256 : Nat) = 2 ^ 8 by rfl, ← Nat.pow_mul]
        push_cast; rfl
      have hS := hO.set byEnc_len (wd - 1 - k) (by rw [hlen]; omega) 0 (.int .u8 (n / 2 ^ (8 * k) % 256)) (UInt8.ofNat (n.toNat / 256 ^ k % 256)) (by omega) (by rw [hx]; rfl); rw [be_set wd k n.toNat hlt _ rfl, Nat.mul_one, Nat.add_zero] at hS; obtain ⟨u, hu⟩ : ∃ u, wr.cell? ⟨w.heap.size, wd - 1 - k, none⟩ = some u := ⟨_, hc⟩
      clear hc hlen hx; have hB2 := Below.setCell (p := ⟨w.heap.size, wd - 1 - k, none⟩) hB (Nat.le_refl _) (.int .u8 (n / 2 ^ (8 * k) % 256)); go_wp2; go_roundw
      case rel => exact ⟨k + 1, by omega, by go_num, hS, hB2⟩
      case measure => simp [intOf]; omega
    · obtain rfl : k = wd := by omega
      go_wp2; go_ret; exact ⟨_, rfl, by simpa using hO, hB⟩
set_option maxRecDepth 100000 in
/-- behind. -/
theorem behind_any (w : World) (u v : Value) (L M : List UInt8) (hu : Slc byEnc 1 w u L) (hv : Slc byEnc 1 w v M) (hL : Big (L.length + M.length)) :
    Calls Tryz.prog 108 #[u, v] w fun e w' => ∃ r, e = .returned r ∧ Own w.heap.size 5 1 byEnc w' r (L ++ M) ∧ Below w.heap.size w w' := by
  obtain ⟨a, ac, rfl, -⟩ := hu.len; obtain ⟨b, bc, rfl, -⟩ := hv.len; have hsum : (L.length : Int) + (M.length : Int) = ((L.length + M.length : Nat) : Int) := by push_cast; rfl
  have hbl : IntKind.i64.wrap ((L.length : Int) + (M.length : Int)) = ((L.length + M.length : Nat) : Int) := by rw [IntWalk.i64_in _ (by have := hL.le; omega)]; exact hsum
  clear hsum; go_enter Tryz.func108, Tryz.ntmps108; go_wp2_with (first | (at_make; refine wpList_mkr (base := w.heap.size) rfl _ _ rfl .i64 .i64 _ (L.length + M.length) rfl rfl (by first | rfl | omega) (by have := hL.le; omega) (Nat.le_refl _) ?_; intro w1 hO1 hgr1; have hB1 := (Below.refl w.heap.size w).grown hgr1 (Nat.le_refl _) (fun j e => by cases e); have hu1 := hu.pure hB1; have hv1 := hv.pure hB1) | (at_builtin; refine wpList_app (base := w.heap.size) rfl (.tmp 10) (.tmp 11) 114 5 rfl elem_by byEnc_len byEnc_one _ [] rfl hO1 _ L rfl hu1 (by have := hL.le; simp; unfold maxLen; omega) (by have := hL.le; simp; omega) hB1.size ?_; intro v2 w2 hO2 hgr2 hfr2 hsh2; have hB2 := hB1.grown hgr2 hB1.size (fun j e => by cases e; exact Nat.le_refl _); have hv2 := hv.pure hB2; simp only [List.nil_append] at hO2) | (at_builtin; refine wpList_app (base := w.heap.size) rfl (.tmp 12) (.tmp 13) 114 5 rfl elem_by byEnc_len byEnc_one v2 L rfl hO2 _ M rfl hv2 (by have := hL.le; unfold maxLen; omega) (by have := hL.le; omega) hB2.size ?_; intro v3 w3 hO3 hgr3 hfr3 hsh3; have hB3 := hB2.grown hgr3 hB2.size (fun j e => hO2.ge e))); go_ret; exact ⟨_, rfl, hO3, hB3⟩
set_option maxRecDepth 100000 in
/-- Put. -/
theorem oput_any (w : World) (v : Value) (L : List UInt8) (n : Int) (wd : Nat) (hv : Slc byEnc 1 w v L) (hn : 0 ≤ n) (hw : Wd wd) (hL : Big (L.length + 8)) :
    Calls Tryz.prog 78 #[v, .int .u64 n, .int .i64 wd] w fun e w' => ∃ r, e = .returned r ∧ Own w.heap.size 5 1 byEnc w' r (L ++ be wd n.toNat) ∧ Below w.heap.size w w' := by
  have hb := Lib.hid (be_len wd n.toNat); have hw8 : wd ≤ 8 := by unfold Wd at hw; omega
  go_enter Tryz.func78, Tryz.ntmps78; go_wp2_with (first | (go_at_call 107; (with_reducible refine (wide_yes _ _ hw).mono ?_); rintro e w1 ⟨rfl, rfl⟩) | (go_at_call 109; (with_reducible refine (number_any _ n wd hn hw).mono ?_); rintro e w1 ⟨r1, rfl, hO1, hB1⟩; have hv1 := hv.pure hB1) | (go_at_call 108; (with_reducible refine (behind_any _ _ _ L (be wd n.toNat) hv1 (hO1.slc byEnc_len) (by rw [hb.out]; exact hL.mono (by omega))).mono ?_); rintro e w2 ⟨r2, rfl, hO2, hB2⟩)); go_ret; exact ⟨_, rfl, hO2.rebase (fun i hi => Nat.le_trans hB1.size (hO2.ge hi)), hB1.trans (hB2.mono hB1.size)⟩
set_option maxRecDepth 100000 in
/-- PutText, of a text that is not too long. -/
theorem oputtext_yes (w : World) (v : Value) (L : List UInt8) (s : ByteArray) (wd : Nat) (hv : Slc byEnc 1 w v L) (hw : wd = 1 ∨ wd = 2 ∨ wd = 4) (hs : s.size < 256 ^ wd) (hL : Big (L.length + s.size + 8)) :
    Calls Tryz.prog 83 #[v, .string s, .int .i64 wd] w fun e w' => ∃ r, e = .returned (.tuple #[r, .int .i64 0]) ∧ Own w.heap.size 5 1 byEnc w' r (L ++ (be wd s.size ++ s.data.toList)) ∧ Below w.heap.size w w' := by
  have hb := Lib.hid (be_len wd s.size); have hbl := Lib.hid (ba_len s); have hw2 : Wd wd := by unfold Wd; omega
  have hs0 := hs; have h0 : (0 : Int) ≤ (s.size : Int) := by omega
  have h4 : s.size < 4294967296 := by rcases hw with rfl | rfl | rfl <;> omega
  have hcv : IntKind.u64.wrap (s.size : Int) = (s.size : Int) := by unfold IntKind.wrap; simp [IntKind.signed, IntKind.bits]; omega
  have hq : (s.size : Int) / 2 ^ (8 * wd) = 0 := by
    have : s.size / 2 ^ (8 * wd) = 0 := Nat.div_eq_of_lt (by rw [Nat.pow_mul]; exact hs)
    exact_mod_cast this
  have hne : ((wd : Int) == 8) = false := beq_eq_false_iff_ne.2 (by omega); have hwd1 : 1 ≤ wd := by omega
  have hwd8 : wd ≤ 8 := by omega
  clear hw; go_enter Tryz.func83, Tryz.ntmps83; go_wp2_with (first | (go_at_call 107; (with_reducible refine (wide_yes _ _ hw2).mono ?_); rintro e w1 ⟨rfl, rfl⟩) | (go_at_call 109; (with_reducible refine (number_any _ (s.size : Int) wd h0 hw2).mono ?_); rintro e w1 ⟨r1, rfl, hO1, hB1⟩; rw [Int.toNat_natCast] at hO1; have hv1 := hv.pure hB1) | (at_builtin; refine wpList_appS (base := w.heap.size) rfl (.tmp 27) (.tmp 28) rfl r1 (be wd s.size) rfl hO1 s rfl (by rw [hb.out]; have := hL.le; omega) hB1.size ?_; intro r2 w2 hO2 hgr2; have hB2 := hB1.grown hgr2 hB1.size (fun j e => hO1.ge e); have hv2 := hv.pure hB2) | (go_at_call 108; (with_reducible refine (behind_any _ _ _ L (be wd s.size ++ s.data.toList) hv2 (hO2.slc byEnc_len) (by rw [List.length_append, hb.out, hbl.out]; exact hL.mono (by omega))).mono ?_); rintro e w3 ⟨r3, rfl, hO3, hB3⟩)); go_ret2; exact ⟨_, rfl, hO3.rebase (fun i hi => Nat.le_trans hB2.size (hO3.ge hi)), hB2.trans (hB3.mono hB2.size)⟩
/-- What a reader's inner part holds: the bytes that are left, whether it is bad. -/
def RdS (w : World) (vb : Nat) (b : List UInt8) (bad : Bool) : Prop :=
  ∃ bv, Blk w vb [bv, .bool true, .bool bad] ∧ Slc byEnc 1 w bv b ∧ ∀ k, bv.ownBlock = some k → k < vb
/-- A reader: its outer part points to the inner one. -/
def RdP (w : World) (rb vb : Nat) : Prop := Blk w rb [.pointer (some ⟨vb, 0, none⟩)] ∧ vb < rb
def Only (vb : Nat) (k : Nat) : Prop := k = vb
theorem RdS.pure {w w' : World} {vb : Nat} {b : List UInt8} {bad : Bool} (h : RdS w vb b bad) (hB : Below w.heap.size w w') : RdS w' vb b bad := by
  obtain ⟨bv, h1, h2, h3⟩ := h; exact ⟨bv, h1.pure hB, h2.pure hB, h3⟩
theorem RdS.lt {w : World} {vb : Nat} {b : List UInt8} {bad : Bool} (h : RdS w vb b bad) : vb < w.heap.size := by
  obtain ⟨bv, h1, _⟩ := h; exact h1.lt
theorem RdP.pure {w w' : World} {rb vb : Nat} (h : RdP w rb vb) (hB : Below w.heap.size w w') : RdP w' rb vb := ⟨h.1.pure hB, h.2⟩
theorem RdP.upd {w w' : World} {rb vb : Nat} (h : RdP w rb vb) (hu : Upd (Only vb) w w') : RdP w' rb vb := ⟨h.1.upd hu (fun e => Nat.ne_of_gt h.2 e), h.2⟩
theorem vleft_any (w : World) (vb : Nat) (b : List UInt8) (bad : Bool) (h : RdS w vb b bad) :
    Calls Tryz.prog 137 #[.pointer (some ⟨vb, 0, none⟩)] w fun e w' => e = .returned (.int .i64 b.length) ∧ w = w' := by
  obtain ⟨bv, h1, h2, h3⟩ := h; obtain ⟨a, c, rfl, -⟩ := h2.len; have c0 := h1.at 0 rfl; clear h1 h3; go_enter Tryz.func137, Tryz.ntmps137; go_wp2; go_ret; exact ⟨rfl, rfl⟩
theorem vbad_any (w : World) (vb : Nat) (b : List UInt8) (bad : Bool) (h : RdS w vb b bad) :
    Calls Tryz.prog 120 #[.pointer (some ⟨vb, 0, none⟩)] w fun e w' => e = .returned (.bool bad) ∧ w = w' := by
  obtain ⟨bv, h1, h2, h3⟩ := h; have c1 := h1.at 1 rfl; have c2 := h1.at 2 rfl; clear h1 h3 h2; cases bad
  all_goals
    go_enter Tryz.func120, Tryz.ntmps120; go_wp2; go_ret; exact ⟨rfl, rfl⟩
theorem left_any (w : World) (rb vb : Nat) (b : List UInt8) (bad : Bool) (hp : RdP w rb vb) (h : RdS w vb b bad) :
    Calls Tryz.prog 117 #[.pointer (some ⟨rb, 0, none⟩)] w fun e w' => e = .returned (.int .i64 b.length) ∧ w = w' := by
  have c0 := hp.1.at 0 rfl; go_enter Tryz.func117, Tryz.ntmps117; go_wp2_with (go_at_call 137; (with_reducible refine (vleft_any _ vb b bad h).mono ?_); rintro e w1 ⟨rfl, rfl⟩); go_ret; exact ⟨rfl, rfl⟩
theorem bad_any (w : World) (rb vb : Nat) (b : List UInt8) (bad : Bool) (hp : RdP w rb vb) (h : RdS w vb b bad) :
    Calls Tryz.prog 94 #[.pointer (some ⟨rb, 0, none⟩)] w fun e w' => e = .returned (.bool bad) ∧ w = w' := by
  have c0 := hp.1.at 0 rfl; go_enter Tryz.func94, Tryz.ntmps94; go_wp2_with (go_at_call 120; (with_reducible refine (vbad_any _ vb b bad h).mono ?_); rintro e w1 ⟨rfl, rfl⟩); go_ret; exact ⟨rfl, rfl⟩
theorem Slc.nil0 {α : Type} {enc : α → List Value} {m : Nat} {w : World} : Slc enc m w (.slice none 0 0) [] :=   .inl ⟨Option.none, 0, rfl, by unfold maxLen; omega, rfl⟩
set_option maxRecDepth 100000 in
theorem spoil_any (w : World) (rb vb : Nat) (b : List UInt8) (bad : Bool) (hp : RdP w rb vb) (h : RdS w vb b bad) :
    Calls Tryz.prog 115 #[.pointer (some ⟨rb, 0, none⟩)] w fun e w' => e = .returned (.tuple #[]) ∧ RdS w' vb [] true ∧ Upd (Only vb) w w' := by
  obtain ⟨bv, h1, h2, h3⟩ := h; have c0 := hp.1.at 0 rfl; have d0 := h1.at 0 rfl; have d2 := h1.at 2 rfl; have z0 := h1.frozen 0; have z2 := h1.frozen 2; go_enter Tryz.func115, Tryz.ntmps115; go_wp2; go_region
  all_goals
    go_end0; refine ⟨rfl, ⟨_, (h1.set 0 (.slice none 0 0)).set 2 (.bool true), Slc.nil0, fun k e => by cases e⟩, ?_⟩; exact ((Upd.set (p := ⟨vb, 0, none⟩) (S := Only vb) rfl _).trans (Upd.set (p := ⟨vb, 2, none⟩) (S := Only vb) rfl _) (fun _ h _ => h)).drew
set_option maxRecDepth 100000 in
theorem take_yes (w : World) (rb vb : Nat) (b : List UInt8) (n : Nat) (hp : RdP w rb vb) (h : RdS w vb b false) (hn : n ≤ b.length) (hL : Big b.length) :
    Calls Tryz.prog 116 #[.pointer (some ⟨rb, 0, none⟩), .int .i64 n] w fun e w' => ∃ r, e = .returned r ∧ Own w.heap.size 5 1 byEnc w' r (b.take n) ∧ RdS w' vb (b.drop n) false ∧ Upd (Only vb) w w' := by
  have hs := h; obtain ⟨bv, h1, h2, h3⟩ := h; obtain ⟨a, cap, rfl, -⟩ := h2.len; have c0 := hp.1.at 0 rfl; have d0 := h1.at 0 rfl; have hn0 : decide ((n : Int) < 0) = false := decide_eq_false (by omega); have hn1 : (0 : Int) ≤ (n : Int) := by omega
  have hn2 : (n : Int) ≤ (b.length : Int) := by omega
  have hn3 : decide ((b.length : Int) < (n : Int)) = false := decide_eq_false (by omega); have hn4 : decide (b.length < n) = false := decide_eq_false (by omega); go_enter Tryz.func116, Tryz.ntmps116; go_upto_region 5 with (first | (go_at_call 94; (with_reducible refine (bad_any _ rb vb b false hp hs).mono ?_); rintro e w1 ⟨rfl, rfl⟩) | (go_at_call 117; (with_reducible refine (left_any _ rb vb b false hp hs).mono ?_); rintro e w1 ⟨rfl, rfl⟩) | (refine wpList_slc_h (x := .tmp 26) (y := .tmp 27) (u := n) rfl rfl elem_by rfl h2 rfl rfl hn ?_; intro v1 hv1) | (go_at_call 114; (with_reducible refine (bclone_any _ v1 (b.take n) hv1 (hL.mono (List.length_take_le' _ _))).mono ?_); rintro e w2 ⟨r2, rfl, hO2, hB2⟩)); have hB2' := hB2; have hp2 := hp.pure hB2; have hk2 := h1.pure hB2; have c02 := hp2.1.at 0 rfl; have d02 := hk2.at 0 rfl; have z02 := hk2.frozen 0; clear c0 d0; have hpart := (h2.part hn (Nat.le_refl _)).pure hB2; rw [List.take_length] at hpart; unfold sliced at hpart; have hown : ∀ v : Value, Own w.heap.size 5 1 byEnc (w2.setCell ⟨vb, 0, none⟩ v).drew r2 (b.take n) := fun v => (hO2.other ⟨vb, 0, none⟩ v (fun k hk e => by have := hO2.ge hk; have := hs.lt; simp only at e; omega)).drew
  have hfin : ∀ v : Value, Slc byEnc 1 w2 v (b.drop n) → (∀ k, v.ownBlock = some k → k < vb) → RdS (w2.setCell ⟨vb, 0, none⟩ v).drew vb (b.drop n) false := fun v hv hne => ⟨v, hk2.set 0 v, (hv.other ⟨vb, 0, none⟩ v (fun k hk => Nat.ne_of_lt (hne k hk))), hne⟩
  have hupd : ∀ v : Value, Upd (Only vb) w (w2.setCell ⟨vb, 0, none⟩ v).drew := fun v => ((Upd.of_below hB2).trans (Upd.set (S := Only vb) (p := ⟨vb, 0, none⟩) rfl v) (fun i h _ => h)).drew
  by_cases hcap : cap = n
  · rw [if_pos hcap] at hpart; subst hcap; rw [Nat.sub_self] at hpart; go_region
    all_goals
      go_wp2; go_ret; exact ⟨_, rfl, hown _, hfin _ hpart (fun k hk => h3 k (by cases a with | none => exact hk | some x => exact hk)), hupd _⟩
  · rw [if_neg hcap, Nat.mul_one] at hpart; go_region
    all_goals
      go_wp2; go_ret; refine ⟨_, rfl, hown _, hfin _ ?_ ?_, hupd _⟩
      · exact hpart
      · intro k hk; refine h3 k ?_
        cases a with
        | none => exact hk
        | some x => rw [← hk]; simp [Value.ownBlock, Addr.add]; split <;> rfl
theorem ofInt64 (x : Nat) (hx : x < 2^64) : (BitVec.ofInt IntKind.u64.bits (x : Int)).toNat = x := by
  rw [BitVec.toNat_ofInt]; show ((x : Int) % ((2^64 : Nat) : Int)).toNat = x
  omega
theorem wrap_u64 (x : Int) (h0 : 0 ≤ x) (h : x < 18446744073709551616) : IntKind.u64.wrap x = x := by
  have e : IntKind.u64.wrap x = x % 18446744073709551616 := rfl; rw [e]; omega
theorem or_u64 (x y : Nat) (hx : x < 2^64) (hy : y < 2^64) : bits .or .u64 (x : Int) (y : Int) = ((x ||| y : Nat) : Int) := by
  have h : x ||| y < 2^64 := Nat.or_lt_two_pow hx hy
  unfold bits; simp only [BitVec.toNat_or, ofInt64 x hx, ofInt64 y hy]; exact wrap_u64 _ (by omega) (by omega)
theorem or_byte (a c : Nat) (ha : a < 256 ^ 7) (hc : c < 256) : bits .or .u64 (IntKind.u64.wrap ((a : Int) * 256)) (IntKind.u64.wrap (c : Int)) = ((256 * a + c : Nat) : Int) := by
  rw [wrap_u64 _ (by omega) (by omega), wrap_u64 _ (by omega) (by omega)]; have : (a : Int) * 256 = ((256 * a : Nat) : Int) := by omega
  rw [this, or_u64 _ _ (by omega) (by omega)]; have := Nat.two_pow_add_eq_or_of_lt (i := 8) (b := c) (by omega) a; rw [show 256 * a ||| c = 256 * a + c from this.symm]
set_option maxRecDepth 100000 in
theorem take_no (w : World) (rb vb : Nat) (b : List UInt8) (bad : Bool) (n : Nat) (hp : RdP w rb vb) (hs : RdS w vb b bad) (hn : bad = true ∨ b.length < n) :
    Calls Tryz.prog 116 #[.pointer (some ⟨rb, 0, none⟩), .int .i64 n] w fun e w' => e = .returned (.slice none 0 0) ∧ RdS w' vb [] true ∧ Upd (Only vb) w w' := by
  have hn0 : decide ((n : Int) < 0) = false := decide_eq_false (by omega); have hn1 : (0 : Int) ≤ (n : Int) := by omega
  cases bad
  · have hn2 : b.length < n := by simpa using hn
    have hn3 : decide ((b.length : Int) < (n : Int)) = true := decide_eq_true (by omega); have hn4 : decide (b.length < n) = true := decide_eq_true (by omega); clear hn; go_enter Tryz.func116, Tryz.ntmps116; go_wp2_with (first | (go_at_call 94; (with_reducible refine (bad_any _ rb vb b false hp hs).mono ?_); rintro e w1 ⟨rfl, rfl⟩) | (go_at_call 117; (with_reducible refine (left_any _ rb vb b false hp hs).mono ?_); rintro e w1 ⟨rfl, rfl⟩) | (go_at_call 115; (with_reducible refine (spoil_any _ rb vb b false hp hs).mono ?_); rintro e w2 ⟨rfl, hr2, hu2⟩)); go_ret; exact ⟨rfl, hr2, hu2⟩
  · clear hn; go_enter Tryz.func116, Tryz.ntmps116; go_wp2_with (first | (go_at_call 94; (with_reducible refine (bad_any _ rb vb b true hp hs).mono ?_); rintro e w1 ⟨rfl, rfl⟩) | (go_at_call 115; (with_reducible refine (spoil_any _ rb vb b true hp hs).mono ?_); rintro e w2 ⟨rfl, hr2, hu2⟩)); go_ret; exact ⟨rfl, hr2, hu2⟩
set_option maxRecDepth 100000 in
theorem num_no (w : World) (rb vb : Nat) (b : List UInt8) (bad : Bool) (wd : Nat) (hp : RdP w rb vb) (hs : RdS w vb b bad) (hw : Wd wd) (hn : bad = true ∨ b.length < wd) :
    Calls Tryz.prog 87 #[.pointer (some ⟨rb, 0, none⟩), .int .i64 wd] w fun e w' => e = .returned (.int .u64 0) ∧ RdS w' vb [] true ∧ Upd (Only vb) w w' := by
  go_enter Tryz.func87, Tryz.ntmps87; go_wp2_with (first | (go_at_call 107; (with_reducible refine (wide_yes _ _ hw).mono ?_); rintro e w1 ⟨rfl, rfl⟩) | (go_at_call 116; (with_reducible refine (take_no _ rb vb b bad wd hp hs hn).mono ?_); rintro e w2 ⟨rfl, hr2, hu2⟩)); go_loopw [5, 17] (fun s5 s17 wr => s5 = .int .u64 0 ∧ s17 = .int .i64 0 ∧ wr = w2) (fun _ _ _ => 0)
  case atStart => exact ⟨rfl, rfl, rfl⟩
  case round =>
    obtain ⟨rfl, rfl, rfl⟩ := hrel; go_wp2; go_ret; exact ⟨rfl, hr2, hu2⟩
set_option maxRecDepth 100000 in
set_option maxHeartbeats 1600000 in
theorem num_yes (w : World) (rb vb : Nat) (b : List UInt8) (wd n : Nat) (r : List UInt8) (hp : RdP w rb vb) (hs : RdS w vb b false) (hw : Wd wd) (hg : gN wd b = some (n, r)) (hL : Big b.length) :
    Calls Tryz.prog 87 #[.pointer (some ⟨rb, 0, none⟩), .int .i64 wd] w fun e w' => e = .returned (.int .u64 n) ∧ RdS w' vb r false ∧ Upd (Only vb) w w' := by
  have hgl : wd ≤ b.length ∧ n = unbe (b.take wd) ∧ r = b.drop wd := by
    unfold gN at hg; split at hg
    · simp only [Option.some.injEq, Prod.mk.injEq] at hg; exact ⟨by assumption, hg.1.symm, hg.2.symm⟩
    · simp at hg
  obtain ⟨hl, rfl, rfl⟩ := hgl; clear hg; have hwd : wd ≤ 8 := by unfold Wd at hw; omega
  have hlt := Lib.hid (show (b.take wd).length = wd by rw [List.length_take]; omega); obtain ⟨bs, hbs⟩ : ∃ bs, b.take wd = bs := ⟨_, rfl⟩
  rw [hbs]; have hbl := Lib.hid (show bs.length = wd by rw [← hbs]; exact hlt.out); have hbs2 := Lib.hid hbs; clear hlt hbs; go_enter Tryz.func87, Tryz.ntmps87; go_wp2_with (first | (go_at_call 107; (with_reducible refine (wide_yes _ _ hw).mono ?_); rintro e w1 ⟨rfl, rfl⟩) | (go_at_call 116; (with_reducible refine (take_yes _ rb vb b wd hp hs hl hL).mono ?_); rintro e w2 ⟨r2, rfl, hO2, hr2, hu2⟩; rw [hbs2.out] at hO2; obtain ⟨ra, rc, hra⟩ := own_lenB hO2; rw [hbl.out] at hra; subst hra)); go_loopw [5, 17] (fun s5 s17 wr => ∃ k : Nat, k ≤ wd ∧ s17 = .int .i64 k ∧ s5 = .int .u64 (unbe (bs.take k)) ∧ wr = w2) (fun _ s17 _ => wd - (intOf s17).toNat)
  case atStart => exact ⟨0, by omega, rfl, rfl, rfl⟩
  case round =>
    obtain ⟨k, hk, rfl, rfl, rfl⟩ := hrel; by_cases hlt : k < wd
    · have hkb : k < bs.length := by have := hbl.out; omega
      obtain ⟨g, rfl, -⟩ := own_at' hO2 hkb; have hc := hO2.cell byEnc_len k hkb 0 _ rfl; have h0 : (0 : Int) ≤ (k : Int) := by omega
      have h1 : (k : Int) < (wd : Int) := by omega
      rw [Nat.mul_one, Nat.add_zero] at hc
      have hb1 : unbe (bs.take k) < 256 ^ 7 := by
        have h := unbe_lt (bs.take k); rw [List.length_take] at h; exact Nat.lt_of_lt_of_le h (Nat.pow_le_pow_right (by omega) (by omega))
      have hob := Lib.hid (or_byte (unbe (bs.take k)) bs[k].toNat hb1 bs[k].toNat_lt); have hsn := Lib.hid (show unbe (bs.take (k + 1)) = 256 * unbe (bs.take k) + bs[k].toNat by rw [List.take_succ_eq_append_getElem hkb, unbe_snoc]); clear hb1; go_wp2; go_roundw
      case rel => exact ⟨k + 1, by omega, by go_num, by rw [hob.out, hsn.out], trivial⟩
      case measure => simp [intOf]; omega
    · obtain rfl : k = wd := by omega
      go_wp2; go_ret; have e : bs.take k = bs := by have := hbl.out; rw [List.take_of_length_le (by omega)]
      exact ⟨by rw [e]; rfl, hr2, hu2⟩
theorem wrap_i64 (x : Int) (h0 : 0 ≤ x) (h : x < 9223372036854775808) : IntKind.i64.wrap x = x := IntWalk.i64_in _ (by omega)
theorem Upd.only2 {vb : Nat} {a b c : World} (h : Upd (Only vb) a b) (k : Upd (Only vb) b c) : Upd (Only vb) a c := h.trans k (fun _ h _ => h)
theorem gN_lt {w n : Nat} {b r : List UInt8} (h : gN w b = some (n, r)) : n < 256 ^ w ∧ r.length ≤ b.length ∧ w ≤ b.length := by
  obtain ⟨e, hn⟩ := gN_inv h; have := congrArg List.length e; rw [List.length_append, be_len] at this; exact ⟨hn, by omega, by omega⟩
theorem Wd4 {wd : Nat} (h : wd = 1 ∨ wd = 2 ∨ wd = 4) : Wd wd ∧ ((wd : Int) == 8) = false ∧ 256 ^ wd ≤ 4294967296 := by
  refine ⟨by unfold Wd; omega, beq_eq_false_iff_ne.2 (by omega), ?_⟩; rcases h with rfl | rfl | rfl <;> omega
set_option maxRecDepth 100000 in
set_option maxHeartbeats 1600000 in
theorem text_yes (w : World) (rb vb : Nat) (b : List UInt8) (wd most : Nat) (s : ByteArray) (r : List UInt8) (hp : RdP w rb vb) (hs : RdS w vb b false) (hw : wd = 1 ∨ wd = 2 ∨ wd = 4) (hg : gT wd most b = some (s, r)) (hL : Big b.length) (hM : Big most) :
    Calls Tryz.prog 88 #[.pointer (some ⟨rb, 0, none⟩), .int .i64 wd, .int .i64 most] w fun e w' => e = .returned (.string s) ∧ RdS w' vb r false ∧ Upd (Only vb) w w' := by
  obtain ⟨hw8, hne, hpw⟩ := Wd4 hw; clear hw; obtain ⟨⟨n, b1⟩, hn, hg⟩ := bind_inv hg; obtain ⟨hlt, hle, -⟩ := gN_lt hn; have hL1 : Big b1.length := hL.mono hle; dsimp only at hg; split at hg
  rotate_left 1
  · simp at hg
  rename_i hc; obtain ⟨hc1, hc2⟩ := hc; simp only [Option.some.injEq, Prod.mk.injEq] at hg; obtain ⟨rfl, rfl⟩ := hg; have hn' := Lib.hid hn; have w1 : IntKind.u64.wrap (most : Int) = (most : Int) := wrap_u64 _ (by omega) (by have := hM.le; omega); have w2 : IntKind.u64.wrap (b1.length : Int) = (b1.length : Int) := wrap_u64 _ (by omega) (by have := hL1.le; omega); have w3 : IntKind.i64.wrap (n : Int) = (n : Int) := wrap_i64 _ (by omega) (by omega); have d0 : decide ((most : Int) < 0) = false := decide_eq_false (by omega); have d1 : decide (most < n) = false := decide_eq_false (by omega); have d2 : decide (b1.length < n) = false := decide_eq_false (by omega); have hconv := fun (w : World) (v : Value) (h : Slc byEnc 1 w v (b1.take n)) => conv_str w v _ h
  clear hn hlt hle hpw; go_enter Tryz.func88, Tryz.ntmps88; go_wp2_with (first | (go_at_call 87; (with_reducible refine (num_yes _ rb vb b wd n b1 hp hs hw8 hn'.out hL).mono ?_); rintro e w5 ⟨rfl, hr5, hu5⟩; have hp5 := hp.upd hu5) | (go_at_call 94; (with_reducible refine (bad_any _ rb vb b1 false hp5 hr5).mono ?_); rintro e w6 ⟨rfl, rfl⟩) | (go_at_call 117; (with_reducible refine (left_any _ rb vb b1 false hp5 hr5).mono ?_); rintro e w6 ⟨rfl, rfl⟩) | (go_at_call 116; (with_reducible refine (take_yes _ rb vb b1 n hp5 hr5 hc2 hL1).mono ?_); rintro e w7 ⟨r7, rfl, hO7, hr7, hu7⟩; have k7 := hconv w7 r7 (hO7.slc byEnc_len))); go_ret; exact ⟨rfl, hr7, hu5.only2 hu7⟩
set_option maxRecDepth 100000 in
set_option maxHeartbeats 1600000 in
theorem text_no (w : World) (rb vb : Nat) (b : List UInt8) (bad : Bool) (wd most : Nat) (hp : RdP w rb vb) (hs : RdS w vb b bad) (hw : wd = 1 ∨ wd = 2 ∨ wd = 4) (hg : bad = true ∨ gT wd most b = none) (hL : Big b.length) (hM : Big most) :
    Calls Tryz.prog 88 #[.pointer (some ⟨rb, 0, none⟩), .int .i64 wd, .int .i64 most] w fun e w' => e = .returned (.string ⟨#[]⟩) ∧ RdS w' vb [] true ∧ Upd (Only vb) w w' := by
  obtain ⟨hw8, hne, hpw⟩ := Wd4 hw; clear hw; by_cases hno : bad = true ∨ b.length < wd
  · clear hg; go_enter Tryz.func88, Tryz.ntmps88; go_wp2_with (first | (go_at_call 87; (with_reducible refine (num_no _ rb vb b bad wd hp hs hw8 hno).mono ?_); rintro e w5 ⟨rfl, hr5, hu5⟩; have hp5 := hp.upd hu5) | (go_at_call 94; (with_reducible refine (bad_any _ rb vb [] true hp5 hr5).mono ?_); rintro e w6 ⟨rfl, rfl⟩) | (go_at_call 115; (with_reducible refine (spoil_any _ rb vb [] true hp5 hr5).mono ?_); rintro e w7 ⟨rfl, hr7, hu7⟩)); go_ret; exact ⟨rfl, hr7, hu5.only2 hu7⟩
  · have hb : bad = false := by cases bad with | false => rfl | true => exact absurd (Or.inl rfl) hno
    subst hb; have hl : wd ≤ b.length := by have : ¬ b.length < wd := fun h => hno (.inr h); omega
    have hg' : gT wd most b = none := by simpa using hg
    clear hg hno; obtain ⟨n, b1, hn⟩ : ∃ n b1, gN wd b = some (n, b1) := ⟨_, _, by unfold gN; rw [if_pos hl]⟩
    obtain ⟨hlt, hle, -⟩ := gN_lt hn; have hL1 : Big b1.length := hL.mono hle
    have hbig : ¬ (n ≤ most ∧ n ≤ b1.length) := fun hc => by
      unfold gT at hg'; rw [hn, Option.bind_some] at hg'; dsimp only at hg'; rw [if_pos hc] at hg'; cases hg'
    clear hg'; have hn' := Lib.hid hn; have w1 : IntKind.u64.wrap (most : Int) = (most : Int) := wrap_u64 _ (by omega) (by have := hM.le; omega); have w2 : IntKind.u64.wrap (b1.length : Int) = (b1.length : Int) := wrap_u64 _ (by omega) (by have := hL1.le; omega); have d0 : decide ((most : Int) < 0) = false := decide_eq_false (by omega); by_cases h1 : most < n
    · have d1 : decide (most < n) = true := decide_eq_true h1; clear hn hlt hle hpw hl hbig; go_enter Tryz.func88, Tryz.ntmps88; go_wp2_with (first | (go_at_call 87; (with_reducible refine (num_yes _ rb vb b wd n b1 hp hs hw8 hn'.out hL).mono ?_); rintro e w5 ⟨rfl, hr5, hu5⟩; have hp5 := hp.upd hu5) | (go_at_call 94; (with_reducible refine (bad_any _ rb vb b1 false hp5 hr5).mono ?_); rintro e w6 ⟨rfl, rfl⟩) | (go_at_call 115; (with_reducible refine (spoil_any _ rb vb b1 false hp5 hr5).mono ?_); rintro e w7 ⟨rfl, hr7, hu7⟩)); go_ret; exact ⟨rfl, hr7, hu5.only2 hu7⟩
    · have d1 : decide (most < n) = false := decide_eq_false h1; have d2 : decide (b1.length < n) = true := decide_eq_true (by omega); clear hn hlt hle hpw hl hbig; go_enter Tryz.func88, Tryz.ntmps88; go_wp2_with (first | (go_at_call 87; (with_reducible refine (num_yes _ rb vb b wd n b1 hp hs hw8 hn'.out hL).mono ?_); rintro e w5 ⟨rfl, hr5, hu5⟩; have hp5 := hp.upd hu5) | (go_at_call 94; (with_reducible refine (bad_any _ rb vb b1 false hp5 hr5).mono ?_); rintro e w6 ⟨rfl, rfl⟩) | (go_at_call 117; (with_reducible refine (left_any _ rb vb b1 false hp5 hr5).mono ?_); rintro e w6 ⟨rfl, rfl⟩) | (go_at_call 115; (with_reducible refine (spoil_any _ rb vb b1 false hp5 hr5).mono ?_); rintro e w7 ⟨rfl, hr7, hu7⟩)); go_ret; exact ⟨rfl, hr7, hu5.only2 hu7⟩
set_option maxRecDepth 100000 in
theorem oopen_any (w : World) (v : Value) (L : List UInt8) (h : Slc byEnc 1 w v L) (hL : Big L.length) :
    Calls Tryz.prog 86 #[v] w fun e w' => ∃ rb vb, e = .returned (.pointer (some ⟨rb, 0, none⟩)) ∧ RdP w' rb vb ∧ RdS w' vb L false ∧ w.heap.size ≤ vb ∧ w.heap.size ≤ rb ∧ Below w.heap.size w w' := by
  go_enter Tryz.func86, Tryz.ntmps86; go_wp2_with (go_at_call 114; (with_reducible refine (bclone_any _ v L h hL).mono ?_); rintro e w1 ⟨r1, rfl, hO1, hB1⟩; obtain ⟨ra, rc, rfl⟩ := own_lenB hO1); go_ret; have k1 := Blk.new w1 [.slice ra L.length rc, .bool true, .bool false] 156; have hB2 := hB1.alloc hB1.size (.cells #[.slice ra L.length rc, .bool true, .bool false] 156); refine ⟨_, _, rfl, ⟨by have := Blk.new (w1.alloc (.cells #[.slice ra L.length rc, .bool true, .bool false] 156)) [.pointer (some ⟨w1.heap.size, 0, none⟩)] 158; simpa using this, ?_⟩, ⟨_, k1.alloc _, ((hO1.alloc _).alloc _).slc byEnc_len, fun k hk => hO1.lt hk⟩, hB1.size, ?_, hB2.alloc hB2.size _⟩
  · simp
  · have := hB1.size; simp; omega
set_option maxRecDepth 100000 in
set_option maxHeartbeats 1600000 in
theorem dnumber_any (w : World) (n : Int) (wd : Nat) (hn : 0 ≤ n) (hn1 : Hid (n < 18446744073709551616)) (hw : Wd wd) :
    Calls Tryz.prog 133 #[.int .u64 n, .int .i64 wd] w fun e w' => ∃ r, e = .returned r ∧ Own w.heap.size 5 1 byEnc w' r (be wd n.toNat) ∧ Below w.heap.size w w' := by
  have hwd8 : wd ≤ 8 := by unfold Wd at hw; omega
  clear hw; go_enter Tryz.func133, Tryz.ntmps133; go_wp2; go_loopw [0, 5, 6] (fun s0 s5 s6 wr => ∃ k : Nat, ∃ q : Int, k ≤ wd ∧ s6 = .int .i64 k ∧ 0 ≤ q ∧ q = ((n.toNat / 256 ^ k : Nat) : Int) ∧ s0 = .int .u64 q ∧ Own w.heap.size 5 1 byEnc wr s5 (be k n.toNat) ∧ Below w.heap.size w wr) (fun _ _ s6 _ => wd - (intOf s6).toNat)
  case atStart => exact ⟨0, n, by omega, rfl, hn, by simp; omega, rfl, Own.nil, Below.refl _ _⟩
  case round =>
    obtain ⟨k, q, hk, rfl, hq0, hq, rfl, hO, hB⟩ := hrel; obtain ⟨oa, on_, oc, rfl⟩ := hO.shape3; have hqh := Lib.hid hq; clear hq; by_cases hlt : k < wd
    · have h1 : (k : Int) < (wd : Int) := by omega
      have hbl := Lib.hid (be_len k n.toNat)
      have hdv : IntKind.u64.wrap (q.tdiv 256) = q / 256 := by
        rw [Int.tdiv_eq_ediv_of_nonneg hq0]; have h1 := hn1.out; have h2 := hqh.out; have h3 := Nat.div_le_self n.toNat (256 ^ k); exact wrap_u64 _ (by omega) (by omega)
      have hx : IntKind.u8.wrap (q % 256) = ((UInt8.ofNat (n.toNat / 256 ^ k % 256)).toNat : Int) := by
        rw [hqh.out, UInt8.toNat_ofNat', Nat.mod_mod]
        have e : ∀ z : Int, 0 ≤ z → z < 256 → IntKind.u8.wrap z = z := fun z h0 h1 => by
          have e : IntKind.u8.wrap z = z % 256 := rfl; rw [e]; omega
        rw [e _ (by omega) (by omega)]; omega
      have hx2 := Lib.hid hx; have hx3 : q % 256 = ((UInt8.ofNat (n.toNat / 256 ^ k % 256)).toNat : Int) := by rw [hqh.out, UInt8.toNat_ofNat', Nat.mod_mod]; omega
      have hx4 := Lib.hid hx3; clear hx hx3; have hcons := Lib.hid (be_cons k n.toNat); have hBb := hB.alloc hB.size (.cells #[.int .u8 (q % 256)] 5); have hO1 := Own.byte1 wr (UInt8.ofNat (n.toNat / 256 ^ k % 256)) (q % 256) hx4.out (Nat.le_refl wr.heap.size); have hS := (hO.alloc (.cells #[.int .u8 (q % 256)] 5)).slc byEnc_len; go_wp2_with (at_builtin; refine wpList_app (base := wr.heap.size) rfl (.tmp 15) (.tmp 16) 114 5 rfl elem_by byEnc_len byEnc_one _ _ rfl hO1 _ (be k n.toNat) rfl hS (by rw [hbl.out]; simp; unfold maxLen; omega) (by rw [hbl.out]; simp; omega) (by simp) ?_; intro v' w1 hO2 hgr hfr hsh); go_roundw
      case rel => exact ⟨k + 1, q / 256, by omega, by go_num, by omega, by rw [hqh.out, Nat.pow_succ, ← Nat.div_div_eq_div_mul]; omega, rfl, by rw [hcons.out]; exact hO2.rebase (fun i hi => Nat.le_trans hB.size (hO2.ge hi)), hBb.grown hgr hBb.size (fun j e => by cases e; exact hB.size)⟩
      case measure => simp [intOf]; omega
    · obtain rfl : k = wd := by omega
      go_wp2; go_ret; exact ⟨_, rfl, hO, hB⟩
/-- What the document's reader holds. -/
def DrS (w : World) (rb : Nat) (b : List UInt8) (bad : Bool) : Prop :=
  ∃ bv, Blk w rb [bv, .bool bad] ∧ Slc byEnc 1 w bv b ∧ ∀ k, bv.ownBlock = some k → k < rb
theorem DrS.pure {w w' : World} {vb : Nat} {b : List UInt8} {bad : Bool} (h : DrS w vb b bad) (hB : Below w.heap.size w w') : DrS w' vb b bad := by
  obtain ⟨bv, h1, h2, h3⟩ := h; exact ⟨bv, h1.pure hB, h2.pure hB, h3⟩
theorem DrS.cells {w : World} {rb : Nat} {b : List UInt8} {bad : Bool} (h : DrS w rb b bad) : ∃ a c, w.cell? ⟨rb, 0, none⟩ = some (.slice a b.length c) ∧ w.cell? ⟨rb, 1, none⟩ = some (.bool bad) := by
  obtain ⟨bv, h1, h2, h3⟩ := h; obtain ⟨a, cap, rfl, -⟩ := h2.len; exact ⟨a, cap, h1.at 0 rfl, h1.at 1 rfl⟩
/-- A value with the slices that hold its parts. -/
inductive VT where
  | mk (k n : Int) (s : ByteArray) (kv lv : Value) (ks : List ByteArray) (l : List VT)
namespace VT
def k : VT → Int | .mk k _ _ _ _ _ _ => k
def n : VT → Int | .mk _ n _ _ _ _ _ => n
def s : VT → ByteArray | .mk _ _ s _ _ _ _ => s
def kv : VT → Value | .mk _ _ _ kv _ _ _ => kv
def lv : VT → Value | .mk _ _ _ _ lv _ _ => lv
def ks : VT → List ByteArray | .mk _ _ _ _ _ ks _ => ks
def l : VT → List VT | .mk _ _ _ _ _ _ l => l
theorem ind {P : VT → Prop} (h : ∀ t : VT, (∀ x ∈ t.l, P x) → P t) : ∀ t, P t
  | .mk k n s kv lv ks l => h (.mk k n s kv lv ks l) (fun t (ht : t ∈ l) => ind h t)
mutual
def v : VT → V
  | .mk k n s _ _ ks l => .mk k n s ks (vL l)
def vL : List VT → List V
  | [] => []
  | x :: xs => v x :: vL xs
end
theorem vL_map : ∀ l : List VT, vL l = l.map v
  | [] => by unfold vL; rfl
  | x :: xs => by unfold vL; rw [vL_map xs]; rfl
theorem v_eq (t : VT) : t.v = .mk t.k t.n t.s t.ks (t.l.map v) := by
  cases t with
  | mk k n s kv lv ks l => unfold v; rw [vL_map]; rfl
end VT
def vEnc (t : VT) : List Value := [.int .u8 t.k, .int .u64 t.n, .string t.s, t.kv, t.lv]
theorem vEnc_len (t : VT) : (vEnc t).length = 5 := rfl
/-- A tree reads in a world, its parts in blocks of which P holds. -/
inductive Rd (P : Nat → Prop) (w : World) : VT → Prop
  | mk {t : VT} : Slc strEnc 1 w t.kv t.ks → (t.ks ≠ [] → ∀ b, t.kv.ownBlock = some b → P b) → Slc vEnc 5 w t.lv t.l → (t.l ≠ [] → ∀ b, t.lv.ownBlock = some b → P b) →
      (∀ x ∈ t.l, Rd P w x) → 0 ≤ t.n → t.n < 18446744073709551616 → 0 ≤ t.k → t.k < 256 → Rd P w t
section
variable {P Q : Nat → Prop} {w w' : World} {t : VT}
theorem Rd.kv (h : Rd P w t) : Slc strEnc 1 w t.kv t.ks := by cases h; assumption
theorem Rd.kb (h : Rd P w t) : t.ks ≠ [] → ∀ b, t.kv.ownBlock = some b → P b := by cases h; assumption
theorem Rd.lv (h : Rd P w t) : Slc vEnc 5 w t.lv t.l := by cases h; assumption
theorem Rd.lb (h : Rd P w t) : t.l ≠ [] → ∀ b, t.lv.ownBlock = some b → P b := by cases h; assumption
theorem Rd.sub (h : Rd P w t) : ∀ x ∈ t.l, Rd P w x := by cases h; assumption
theorem Rd.n0 (h : Rd P w t) : 0 ≤ t.n := by cases h; assumption
theorem Rd.n1 (h : Rd P w t) : t.n < 18446744073709551616 := by cases h; assumption
theorem Rd.k0 (h : Rd P w t) : 0 ≤ t.k := by cases h; assumption
theorem Rd.k1 (h : Rd P w t) : t.k < 256 := by cases h; assumption
theorem Rd.wf (h : Rd P w t) : t.v.Wf := by
  induction t using VT.ind with
  | h t ih =>
    rw [VT.v_eq]
    exact .mk h.n0 h.n1 h.k0 h.k1 (fun x hx => by
      obtain ⟨y, hy, rfl⟩ := List.mem_map.1 hx
      exact ih y hy (h.sub y hy))
theorem slc_lt {α : Type} {enc : α → List Value} {m : Nat} {v : Value} {L : List α} (hm : ∀ x, (enc x).length = m) (hp : 0 < m) (h : Slc enc m w v L) (hL : L ≠ []) : ∀ b, v.ownBlock = some b → b < w.heap.size := by
  intro b hb; rcases h with ⟨_, _, _, _, rfl⟩ | ⟨g, off, cap, rfl, h1, h2, h3⟩
  · exact absurd rfl hL
  · have hlen : 0 < L.length := List.length_pos_iff.2 hL; have : 0 < (enc L[0]).length := by rw [hm]; exact hp
    have := h3 0 hlen 0 _ (List.getElem?_eq_getElem this); have := World.block_lt_of_cell? w _ this; have e : g = b := by simpa [Value.ownBlock] using hb
    subst e; exact this
theorem Slc.updL {α : Type} {enc : α → List Value} {m : Nat} {S : Nat → Prop} {v : Value} {L : List α} (h : Slc enc m w v L) (hu : Upd S w w') (hS : L ≠ [] → ∀ b, v.ownBlock = some b → ¬ S b) : Slc enc m w' v L := by
  by_cases hL : L = []
  · subst hL; rcases h with ⟨a, cap, e, hc, _⟩ | ⟨g, off, cap, e, h1, h2, h3⟩
    · exact .inl ⟨a, cap, e, hc, rfl⟩
    · exact .inl ⟨_, cap, e, h2, rfl⟩
  · exact h.upd hu (hS hL)
theorem Rd.upd {S : Nat → Prop} (h : Rd P w t) (hu : Upd S w w') (hS : ∀ b, P b → ¬ S b) : Rd P w' t := by
  induction t using VT.ind with
  | h t ih => exact .mk (h.kv.updL hu (fun e b hb => hS b (h.kb e b hb))) h.kb (h.lv.updL hu (fun e b hb => hS b (h.lb e b hb))) h.lb (fun x hx => ih x hx (h.sub x hx)) h.n0 h.n1 h.k0 h.k1
theorem Rd.weaken (h : Rd P w t) (hQ : ∀ b, b < w.heap.size → P b → Q b) : Rd Q w t := by
  induction t using VT.ind with
  | h t ih => exact .mk h.kv (fun e b hb => hQ b (slc_lt strEnc_len (by omega) h.kv e b hb) (h.kb e b hb)) h.lv (fun e b hb => hQ b (slc_lt vEnc_len (by omega) h.lv e b hb) (h.lb e b hb)) (fun x hx => ih x hx (h.sub x hx)) h.n0 h.n1 h.k0 h.k1
theorem Rd.pure (h : Rd P w t) (hB : Below w.heap.size w w') : Rd P w' t := by
  induction t using VT.ind with
  | h t ih => exact .mk (h.kv.pure hB) h.kb (h.lv.pure hB) h.lb (fun x hx => ih x hx (h.sub x hx)) h.n0 h.n1 h.k0 h.k1
theorem Rd.lt (h : Rd P w t) : Rd (fun b => P b ∧ b < w.heap.size) w t := h.weaken (fun b h1 h2 => ⟨h2, h1⟩)
end
theorem Slc.addrB {α : Type} {enc : α → List Value} {m : Nat} {w : World} {a : Option Addr} {n cap : Nat} {L : List α} (h : Slc enc m w (.slice a n cap) L) {k : Nat} (hk : k < L.length) : ∃ g off, a = some ⟨g, off, none⟩ := by
  rcases h with ⟨_, _, _, _, h0⟩ | ⟨g, off, cap', hv, _⟩
  · rw [h0] at hk; simp at hk
  · simp only [Value.slice.injEq] at hv; exact ⟨g, off, hv.1⟩
/-- The five cells of a row of values. -/
theorem v_cells {w : World} {g off n cap k : Nat} {L : List VT} (h : Slc vEnc 5 w (.slice (some ⟨g, off, none⟩) n cap) L) (hk : k < L.length) :
    w.cell? ⟨g, off + k * 5, none⟩ = some (.int .u8 L[k].k) ∧ w.cell? ⟨g, off + k * 5 + 1, none⟩ = some (.int .u64 L[k].n) ∧ w.cell? ⟨g, off + k * 5 + 2, none⟩ = some (.string L[k].s) ∧ w.cell? ⟨g, off + k * 5 + 3, none⟩ = some L[k].kv ∧ w.cell? ⟨g, off + k * 5 + 4, none⟩ = some L[k].lv :=
  ⟨h.get k hk 0 _ rfl, h.get k hk 1 _ rfl, h.get k hk 2 _ rfl, h.get k hk 3 _ rfl, h.get k hk 4 _ rfl⟩
/-- How a value is handed to a function. -/
def VT.arg (t : VT) : Value := .agg #[.int .u8 t.k, .int .u64 t.n, .string t.s, t.kv, t.lv]
theorem VT.arg_mk (k n : Int) (s : ByteArray) (kv lv : Value) (ks : List ByteArray) (l : List VT) : (VT.mk k n s kv lv ks l).arg = .agg #[.int .u8 k, .int .u64 n, .string s, kv, lv] := rfl
/-- A row of values, opened at i. -/
theorem v_elem {P : Nat → Prop} {w : World} {g off n cap : Nat} {L : List VT} (h : Slc vEnc 5 w (.slice (some ⟨g, off, none⟩) n cap) L) {i : Nat} (hi : i < L.length) (hr : Rd P w L[i]) :
    ∃ (k n : Int) (s : ByteArray) (ka : Option Addr) (kl kc : Nat) (la : Option Addr) (ll lc : Nat) (ks : List ByteArray) (l : List VT), L[i] = .mk k n s (.slice ka kl kc) (.slice la ll lc) ks l ∧
      w.cell? ⟨g, off + i * 5, none⟩ = some (.int .u8 k) ∧ w.cell? ⟨g, off + i * 5 + 1, none⟩ = some (.int .u64 n) ∧ w.cell? ⟨g, off + i * 5 + 2, none⟩ = some (.string s) ∧ w.cell? ⟨g, off + i * 5 + 3, none⟩ = some (.slice ka kl kc) ∧ w.cell? ⟨g, off + i * 5 + 4, none⟩ = some (.slice la ll lc) := by
  obtain ⟨c0, c1, c2, c3, c4⟩ := v_cells h hi; obtain ⟨x, hx⟩ : ∃ x, L[i] = x := ⟨_, rfl⟩
  rw [hx] at hr c0 c1 c2 c3 c4 ⊢; obtain ⟨k, n, s, kv, lv, ks, l⟩ := x; obtain ⟨ka, kc, hk, -⟩ := hr.kv.len; obtain ⟨la, lc, hl, -⟩ := hr.lv.len; have hk' : kv = .slice ka ks.length kc := hk; have hl' : lv = .slice la l.length lc := hl; subst hk' hl'; exact ⟨_, _, _, _, _, _, _, _, _, _, _, rfl, c0, c1, c2, c3, c4⟩
/-- A value's own slices. -/
theorem Rd.open {P : Nat → Prop} {w : World} {t : VT} (h : Rd P w t) : ∃ (k n : Int) (s : ByteArray) (ka : Option Addr) (kc : Nat) (la : Option Addr) (lc : Nat) (ks : List ByteArray) (l : List VT), t = .mk k n s (.slice ka ks.length kc) (.slice la l.length lc) ks l ∧
    Slc strEnc 1 w (.slice ka ks.length kc) ks ∧ Slc vEnc 5 w (.slice la l.length lc) l ∧ (ks.length : Int) ≤ 9223372036854775807 ∧ (l.length : Int) ≤ 9223372036854775807 := by
  have h1 := h.kv; have h2 := h.lv; obtain ⟨k, n, s, kv, lv, ks, l⟩ := t; obtain ⟨ka, kc, hk, mk⟩ := h1.len; obtain ⟨la, lc, hl, ml⟩ := h2.len; unfold maxLen at mk ml; have hk' : kv = .slice ka ks.length kc := hk; have hl' : lv = .slice la l.length lc := hl; subst hk' hl'; exact ⟨_, _, _, _, _, _, _, _, _, rfl, h1, h2, by have : ks.length ≤ 9223372036854775807 := mk; omega, by have : l.length ≤ 9223372036854775807 := ml; omega⟩
end Go.Proofs.YtlonokcaddpniaaGreatDoor
