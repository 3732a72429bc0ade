/- Properties: Put, the program's. Conditions: utf8's tables are laid. Written by gen_prF.py. (Texts joined.) -/
import Derived.Test.YtflglpbjapgciaaGreatDoorPA
import Derived.Test.YtflglpbjapgciaaGreatDoorKQ
import Derived.Test.YtflglpbjapgciaaGreatDoorKA

namespace Go.Proofs.YtflglpbjapgciaaGreatDoor
set_option linter.unusedSimpArgs false
set_option linter.unusedVariables false
open Go.RowKit
set_option maxRecDepth 100000 in
set_option maxHeartbeats 6400000 in
theorem p9check_any (t : PT) (P : Nat → Prop) (w : World) (hR : Rd P w t.app) (hT : Tb w) : Calls Tryz.prog 58 #[t.arg] w fun e w' => e = .returned (.int .i64 t.p.chk) ∧ Below w.heap.size w w' := by
  obtain ⟨key, dur, red, mid, tv⟩ := t
  have hR : Rd _ _ tv := hR
  obtain ⟨tk, tn, ts, tka, tkc, tla, tlc, tks, tl, rfl, -⟩ := hR.open
  rw [PT.arg_mk]
  have hB1 := (Below.refl w.heap.size w).alloc (Nat.le_refl _) (.cells #[.string key, .bool dur, .bool red, .string mid, .int .u8 tk, .int .u64 tn, .string ts, .slice tka tks.length tkc, .slice tla tl.length tlc] 62)
  have A1 := Blk.new w [.string key, .bool dur, .bool red, .string mid, .int .u8 tk, .int .u64 tn, .string ts, .slice tka tks.length tkc, .slice tla tl.length tlc] 62
  have R1 := hR.pure hB1
  obtain ⟨cx, hcx⟩ : ∃ cx, (VT.mk tk tn ts (.slice tka tks.length tkc) (.slice tla tl.length tlc) tks tl).v.chk = cx := ⟨_, rfl⟩
  have hchk := Lib.hid (show (PT.mk key dur red mid (VT.mk tk tn ts (.slice tka tks.length tkc) (.slice tla tl.length tlc) tks tl)).p.chk = if key.size ≤ 255 ∧ mid.size ≤ 255 ∧ ((VT.mk tk tn ts (.slice tka tks.length tkc) (.slice tla tl.length tlc) tks tl).v = V.zero ∨ tk = 168 ∧ cx = 0) then 0 else 90 by rw [← hcx, ← (vkind : (VT.mk tk tn ts (.slice tka tks.length tkc) (.slice tla tl.length tlc) tks tl).v.kind = tk)]; rfl)
  have hck := fun (u : World) (R : Rd P u (VT.mk tk tn ts (.slice tka tks.length tkc) (.slice tla tl.length tlc) tks tl)) (hu : Tb u) => check_any (VT.mk tk tn ts (.slice tka tks.length tkc) (.slice tla tl.length tlc) tks tl) P u R hu
  simp only [hcx, VT.arg_mk] at hck
  have hckh := Lib.hid hck
  clear hcx hck
  obtain ⟨nb, hnb⟩ : ∃ nb : Bool, nb = decide ((VT.mk tk tn ts (.slice tka tks.length tkc) (.slice tla tl.length tlc) tks tl).v = V.zero) := ⟨_, rfl⟩
  have hsm : Calls Tryz.prog 90 #[(VT.mk tk tn ts (.slice tka tks.length tkc) (.slice tla tl.length tlc) tks tl).arg, VT.zero.arg] (w.alloc (.cells #[.string key, .bool dur, .bool red, .string mid, .int .u8 tk, .int .u64 tn, .string ts, .slice tka tks.length tkc, .slice tla tl.length tlc] 62)) fun e w' => e = .returned (.bool nb) ∧ Below (World.heap (w.alloc (.cells #[.string key, .bool dur, .bool red, .string mid, .int .u8 tk, .int .u64 tn, .string ts, .slice tka tks.length tkc, .slice tla tl.length tlc] 62))).size (w.alloc (.cells #[.string key, .bool dur, .bool red, .string mid, .int .u8 tk, .int .u64 tn, .string ts, .slice tka tks.length tkc, .slice tla tl.length tlc] 62)) w' := by
    by_cases hz : (VT.mk tk tn ts (.slice tka tks.length tkc) (.slice tla tl.length tlc) tks tl).v = V.zero
    · rw [hnb, decide_eq_true hz]; exact psame_yes (P2 := fun _ => True) R1 VT.zero_rd (hz.trans VT.zero_vz.symm)
    · rw [hnb, decide_eq_false hz]; exact psame_no (P2 := fun _ => True) R1 VT.zero_rd (fun e => hz (e.trans VT.zero_vz))
  rw [VT.arg_mk] at hsm
  have hsmh := Lib.hid hsm
  have hnbh := Lib.hid (show (nb = true → (VT.mk tk tn ts (.slice tka tks.length tkc) (.slice tla tl.length tlc) tks tl).v = V.zero) ∧ (nb = false → ¬ (VT.mk tk tn ts (.slice tka tks.length tkc) (.slice tla tl.length tlc) tks tl).v = V.zero) by rw [hnb]; exact ⟨of_decide_eq_true, of_decide_eq_false⟩)
  clear hsm hnb
  have a0 := A1.at 0 rfl; have a1 := A1.at 1 rfl; have a2 := A1.at 2 rfl; have a3 := A1.at 3 rfl; have a4 := A1.at 4 rfl; have a5 := A1.at 5 rfl; have a6 := A1.at 6 rfl; have a7 := A1.at 7 rfl; have a8 := A1.at 8 rfl
  go_enter Tryz.func58, Tryz.ntmps58
  go_upto_region 2 with (go_at_call 90; refine (hsmh.out).mono ?_; rintro e w2 ⟨rfl, hB2⟩; have A2 := A1.pure hB2; have R2 := R1.pure hB2; have hB12 := hB1.trans (hB2.mono hB1.size); clear a0 a1 a2 a3 a4 a5 a6 a7 a8; have b0 := A2.at 0 rfl; have b1 := A2.at 1 rfl; have b2 := A2.at 2 rfl; have b3 := A2.at 3 rfl; have b4 := A2.at 4 rfl; have b5 := A2.at 5 rfl; have b6 := A2.at 6 rfl; have b7 := A2.at 7 rfl; have b8 := A2.at 8 rfl)
  by_cases h1 : 255 < key.size
  · have h1d : decide ((255 : Int) < (key.size : Int)) = true := decide_eq_true (by omega)
    have h1h := Lib.hid h1
    clear h1
    have hf := Lib.hid (show (PT.mk key dur red mid (VT.mk tk tn ts (.slice tka tks.length tkc) (.slice tla tl.length tlc) tks tl)).p.chk = 90 by rw [hchk.out]; exact if_neg (fun e => by have := h1h.out; omega))
    go_wp2
    go_ret
    exact ⟨by rw [hf.out]; rfl, hB12⟩
  have h1d : decide ((255 : Int) < (key.size : Int)) = false := decide_eq_false (by omega)
  have h1h := Lib.hid (show key.size ≤ 255 by omega)
  clear h1
  by_cases h1 : 255 < mid.size
  · have h2d : decide ((255 : Int) < (mid.size : Int)) = true := decide_eq_true (by omega)
    have h2h := Lib.hid h1
    clear h1
    have hf := Lib.hid (show (PT.mk key dur red mid (VT.mk tk tn ts (.slice tka tks.length tkc) (.slice tla tl.length tlc) tks tl)).p.chk = 90 by rw [hchk.out]; exact if_neg (fun e => by have := h2h.out; omega))
    go_wp2
    go_ret
    exact ⟨by rw [hf.out]; rfl, hB12⟩
  have h2d : decide ((255 : Int) < (mid.size : Int)) = false := decide_eq_false (by omega)
  have h2h := Lib.hid (show mid.size ≤ 255 by omega)
  clear h1
  cases nb
  rotate_left 1
  ·
    have hf := Lib.hid (show (PT.mk key dur red mid (VT.mk tk tn ts (.slice tka tks.length tkc) (.slice tla tl.length tlc) tks tl)).p.chk = 0 by rw [hchk.out]; exact if_pos ⟨h1h.out, h2h.out, .inl (hnbh.out.1 rfl)⟩)
    go_wp2
    go_ret
    exact ⟨by rw [hf.out]; rfl, hB12⟩
  by_cases hk : tk = 168
  rotate_left 1
  · have h3 : decide (tk = 168) = false := decide_eq_false hk
    have h4 : (tk == 168) = false := beq_eq_false_iff_ne.2 hk
    have h5 : (tk != 168) = true := bne_iff_ne.2 hk
    have hkh := Lib.hid hk
    clear hk
    have hf := Lib.hid (show (PT.mk key dur red mid (VT.mk tk tn ts (.slice tka tks.length tkc) (.slice tla tl.length tlc) tks tl)).p.chk = 90 by rw [hchk.out]; exact if_neg (fun e => by rcases e.2.2 with e | e; exact hnbh.out.2 rfl e; exact hkh.out e.1))
    go_wp2
    go_ret
    exact ⟨by rw [hf.out]; rfl, hB12⟩
  subst hk
  by_cases hc : cx = 0
  · subst hc
    have hf := Lib.hid (show (PT.mk key dur red mid (VT.mk 168 tn ts (.slice tka tks.length tkc) (.slice tla tl.length tlc) tks tl)).p.chk = 0 by rw [hchk.out]; exact if_pos ⟨h1h.out, h2h.out, .inr ⟨rfl, rfl⟩⟩)
    have hck := hckh.out _ R2 (hT.pure hB12)
    have hckz := Lib.hid hck
    clear hck
    go_wp2_with (go_at_call 91; refine (hckz.out).mono ?_; rintro e w3 ⟨rfl, hB3⟩; have hBz := hB12.trans (hB3.mono hB12.size))
    go_ret
    exact ⟨by rw [hf.out]; rfl, hBz⟩
  · have h3 : (cx == 0) = false := beq_eq_false_iff_ne.2 hc
    have h4 : (cx != 0) = true := bne_iff_ne.2 hc
    have hch := Lib.hid hc
    clear hc
    have hf := Lib.hid (show (PT.mk key dur red mid (VT.mk 168 tn ts (.slice tka tks.length tkc) (.slice tla tl.length tlc) tks tl)).p.chk = 90 by rw [hchk.out]; exact if_neg (fun e => by rcases e.2.2 with e | e; exact hnbh.out.2 rfl e; exact hch.out e.2))
    have hck := hckh.out _ R2 (hT.pure hB12)
    have hckz := Lib.hid hck
    clear hck
    go_wp2_with (go_at_call 91; refine (hckz.out).mono ?_; rintro e w3 ⟨rfl, hB3⟩; have hBz := hB12.trans (hB3.mono hB12.size))
    go_ret
    exact ⟨by rw [hf.out]; rfl, hBz⟩
/-- Flags put together, the first one the lowest. -/
def bitsN : List Bool → Nat
  | [] => 0
  | b :: r => (if b then 1 else 0) + 2 * bitsN r
theorem bitsN_lt : ∀ L : List Bool, bitsN L < 2 ^ L.length
  | [] => by simp [bitsN]
  | b :: r => by
    have := bitsN_lt r
    unfold bitsN
    rw [List.length_cons, Nat.pow_succ]
    cases b <;> simp <;> omega
theorem bitsN_app : ∀ (L : List Bool) (b : Bool), bitsN (L ++ [b]) = bitsN L + (if b then 2 ^ L.length else 0)
  | [], b => by cases b <;> simp [bitsN]
  | c :: r, b => by
    have := bitsN_app r b
    rw [List.cons_append]
    unfold bitsN
    rw [this, List.length_cons, Nat.pow_succ]
    cases b <;> simp <;> omega
theorem or_pow (n k : Nat) (h : n < 2 ^ k) (hk : k < 3) : bits BinOp.or IntKind.u64 (n : Int) (IntKind.u64.wrap (2 ^ k)) = ((n + 2 ^ k : Nat) : Int) := by
  have e : IntKind.u64.wrap ((2 : Int) ^ k) = ((2 ^ k : Nat) : Int) := by
    match k, hk with
    | 0, _ => rfl
    | 1, _ => rfl
    | 2, _ => rfl
  have hp : 2 ^ k < 2 ^ 64 := by
    match k, hk with
    | 0, _ => omega
    | 1, _ => omega
    | 2, _ => omega
  rw [e, or_u64 n (2 ^ k) (by omega) hp]
  congr 1
  match k, hk, n, h with
  | 0, _, 0, _ => rfl
  | 1, _, 0, _ => rfl
  | 1, _, 1, _ => rfl
  | 2, _, 0, _ => rfl
  | 2, _, 1, _ => rfl
  | 2, _, 2, _ => rfl
  | 2, _, 3, _ => rfl
set_option maxRecDepth 100000 in
set_option maxHeartbeats 3200000 in
theorem bits_any (w : World) (v : Value) (L : List Bool) (h : Slc boolEnc 1 w v L) (hL : L.length ≤ 3) : Calls Tryz.prog 61 #[v] w fun e w' => e = .returned (.int .u64 (bitsN L)) ∧ Below w.heap.size w w' := by
  obtain ⟨va, vc, rfl, -⟩ := h.len
  have hLh := Lib.hid hL
  have hml : (L.length : Int) ≤ 3 := by omega
  clear hL
  go_enter Tryz.func61, Tryz.ntmps61
  go_wp2
  go_loopw [3, 8] (fun s3 s8 wr => ∃ k : Nat, k ≤ L.length ∧ s8 = .int .i64 k ∧ s3 = .int .u64 (bitsN (L.take k)) ∧ Below w.heap.size w wr) (fun s3 s8 _ => L.length - (intOf s8).toNat)
  case atStart => exact ⟨0, by omega, rfl, rfl, Below.refl _ _⟩
  case round =>
    obtain ⟨k, hk, rfl, rfl, hB⟩ := hrel
    by_cases hlt : k < L.length
    · have h1 : (k : Int) < (L.length : Int) := by omega
      have hr := h.pure hB
      obtain ⟨g, off, rfl⟩ := hr.addrB hlt
      have q := hr.get k hlt 0 _ rfl
      rw [Nat.mul_one, Nat.add_zero] at q
      have hst := Lib.hid (show L.take (k + 1) = L.take k ++ [L[k]] from List.take_succ_eq_append_getElem hlt)
      obtain ⟨b, hb⟩ : ∃ b, L[k] = b := ⟨_, rfl⟩
      rw [hb] at q hst
      have hnl := Lib.hid (show bitsN (L.take k) < 2 ^ k by have := bitsN_lt (L.take k); rwa [List.length_take, Nat.min_eq_left hk] at this)
      have hap := Lib.hid (show bitsN (L.take (k + 1)) = bitsN (L.take k) + (if b then 2 ^ k else 0) by rw [hst.out, bitsN_app, List.length_take, Nat.min_eq_left hk])
      obtain ⟨n, hn⟩ : ∃ n, bitsN (L.take k) = n := ⟨_, rfl⟩
      rw [hn] at hnl hap ⊢
      clear hb hn hr
      cases b
      · go_wp2
        go_roundw
        case rel => exact ⟨k + 1, by omega, by go_num, by rw [hap.out]; rfl, hB⟩
        case measure => simp [intOf]; omega
      · go_wp2
        go_roundw
        case rel => exact ⟨k + 1, by omega, by go_num, by rw [hap.out, or_pow n k hnl.out (by have := hLh.out; omega)]; rfl, hB⟩
        case measure => simp [intOf]; omega
    · obtain rfl : k = L.length := by omega
      have hz := Lib.hid (List.take_length (l := L))
      go_wp2
      go_ret
      exact ⟨by rw [hz.out]; rfl, hB⟩
end Go.Proofs.YtflglpbjapgciaaGreatDoor

namespace Go.Proofs.YtflglpbjapgciaaGreatDoor
set_option linter.unusedSimpArgs false
set_option linter.unusedVariables false
open Go.RowKit
theorem Own.cast {α : Type} {base : Nat} {e : TypeId} {m : Nat} {enc : α → List Value} {w : World} {v : Value} {L L' : List α} (h : Own base e m enc w v L) (hE : L = L') : Own base e m enc w v L' := hE ▸ h
theorem Own.byte2 (w : World) (c0 c1 : UInt8) (x0 x1 : Int) (h0 : x0 = (c0.toNat : Int)) (h1 : x1 = (c1.toNat : Int)) {base : Nat} (hb : base ≤ w.heap.size) :
    Own base 5 1 byEnc (w.alloc (.cells #[.int .u8 x0, .int .u8 x1] 5)) (.slice (some ⟨w.heap.size, 0, none⟩) 2 2) [c0, c1] :=
  ⟨by simp [byEnc], .inr ⟨w.heap.size, 2, #[.int .u8 x0, .int .u8 x1], rfl, hb, heap_alloc_new w _, by simp, by unfold maxLen; omega, by simp, by subst h0 h1; simp [byEnc]⟩⟩

set_option maxRecDepth 100000 in
set_option maxHeartbeats 12800000 in
theorem p9part1_any (w : World) (pb q : Nat) (ov tv : Value) (O : List UInt8) (s : ByteArray) (fl : Nat) (hq : Blk w q [ov]) (hO : Own (q + 1) 5 1 byEnc w ov O) (ht : Slc strEnc 1 w tv [s]) (hs : s.size ≤ 255) (hf : fl < 256) (hOl : O.length ≤ 1000) :
    Calls Tryz.prog 59 #[.int .u8 1, .int .u64 fl, tv, .pointer (some ⟨pb, 0, none⟩), .pointer (some ⟨q, 0, none⟩)] w fun e w' => e = .returned (.tuple #[]) ∧ ∃ r, Blk w' q [r] ∧ Own (q + 1) 5 1 byEnc w' r (O ++ part ([4, 1, 0, UInt8.ofNat fl] ++ stx s)) ∧ Below q w w' := by
  have hqs := hq.lt
  obtain ⟨ta, tc, rfl, -⟩ := ht.len
  have ht : Slc strEnc 1 w (.slice ta 1 tc) [s] := ht
  have hf0 : (0 : Int) ≤ (fl : Int) := by omega
  have hfh := Lib.hid hf
  have hsh := Lib.hid hs
  have hOlh := Lib.hid hOl
  have hqh := Lib.hid hqs
  have hBa := (Below.refl w.heap.size w).alloc (Nat.le_refl _) (.cells #[.int .u8 4, .int .u8 1] 5)
  have hOa : Own w.heap.size 5 1 byEnc (w.alloc (.cells #[.int .u8 4, .int .u8 1] 5)) (.slice (some ⟨w.heap.size, 0, none⟩) 2 2) [4, 1] := Own.byte2 w 4 1 4 1 rfl rfl (Nat.le_refl _)
  obtain ⟨l0, hl0⟩ : ∃ l0 : List UInt8, [4, 1] ++ be 2 fl = l0 := ⟨_, rfl⟩
  have hl0h := Lib.hid hl0
  have hl0z := Lib.hid (show l0.length = 4 by rw [← hl0, List.length_append, be_len]; rfl)
  clear hf hs hOl hqs hl0
  go_enter Tryz.func59, Tryz.ntmps59
  go_wp2_with (go_at_call 19; refine (oput_any _ _ [4, 1] (fl : Int) 2 (hOa.slc byEnc_len) hf0 (by unfold Wd; omega) (by unfold Big; simp)).mono ?_; rintro e w1 ⟨r1, rfl, O1, hB1⟩; rw [Int.toNat_natCast, hl0h.out] at O1; have hT1 := hBa.trans (hB1.mono hBa.size); have O1 := O1.rebase (b' := w.heap.size) (fun i hi => Nat.le_trans hBa.size (O1.ge hi)); have t1 := ht.pure hT1)
  go_loopw [8, 19] (fun s8 s19 wr => ∃ (k : Nat) (L : List UInt8), s19 = .int .i64 k ∧ k ≤ 1 ∧ Own w.heap.size 5 1 byEnc wr s8 L ∧ Hid (L = l0 ++ if k = 0 then [] else stx s) ∧ Below w.heap.size w wr) (fun s8 s19 _ => 1 - (intOf s19).toNat)
  case atStart => exact ⟨0, l0, rfl, by omega, O1, Lib.hid (by simp), hT1⟩
  case round =>
    obtain ⟨k, L, rfl, hk, hOL, hLe, hBr⟩ := hrel
    obtain ⟨ba, bc, rfl⟩ := own_lenB hOL
    have tr := ht.pure hBr
    by_cases hk0 : k = 0
    · subst hk0
      obtain ⟨g, off, rfl⟩ := tr.addrB (show 0 < [s].length by simp)
      have qc := tr.get 0 (by simp) 0 _ rfl
      rw [Nat.mul_one, Nat.add_zero] at qc
      have qc : wr.cell? ⟨g, off + 0, none⟩ = some (.string s) := qc
      have qd : wr.cell? ⟨g, off, none⟩ = some (.string s) := qc
      have hLz := Lib.hid (show L.length = 4 by rw [hLe.out]; simp [hl0z.out])
      have hL0 := Lib.hid (show L = l0 by rw [hLe.out]; simp)
      by_cases h0 : s.size = 0
      · obtain rfl : s = ⟨#[]⟩ := size0 h0
        clear h0
        go_wp2
        go_roundw
        case rel => exact ⟨1, L, rfl, by omega, hOL, Lib.hid (by rw [hL0.out]; simp [stx]; rfl), hBr⟩
        case measure => simp [intOf]
      · have h1 : ¬ s.toList = [] := fun e => h0 (by rw [← toList_len, e]; rfl)
        have h2 := empty_no (show 0 < s.size by omega)
        have hstx := Lib.hid (show stx s = be 1 s.size ++ s.data.toList by unfold stx; rw [if_neg h0, be_one (by have := hsh.out; omega)]; rfl)
        clear h0
        go_wp2_with (go_at_call 24; refine (oputtext_yes _ _ L s 1 (hOL.slc byEnc_len) (by omega) (by have := hsh.out; omega) (by have := hsh.out; have := hLz.out; unfold Big; omega)).mono ?_; rintro e w3 ⟨r3, rfl, O3, hB3⟩; rw [← hstx.out] at O3; have hB3r := hBr.trans (hB3.mono hBr.size); have O3 := O3.rebase (b' := w.heap.size) (fun i hi => Nat.le_trans hBr.size (O3.ge hi)))
        go_roundw
        case rel => exact ⟨1, L ++ stx s, rfl, by omega, O3, Lib.hid (by rw [hL0.out]; simp), hB3r⟩
        case measure => simp [intOf]
    · obtain rfl : k = 1 := by omega
      have hL0 := Lib.hid (show L = l0 ++ stx s by rw [hLe.out]; simp)
      have hLz := Lib.hid (show L.length ≤ 300 by have h1 := stx_len s; have h2 := hsh.out; have h3 := hl0z.out; rw [hL0.out, List.length_append]; omega)
      have hqr := hq.pure hBr
      have hOr := hO.pure hBr
      obtain ⟨oa, oc, rfl⟩ := own_lenB hO
      have hq0 := hqr.at 0 rfl; have hqf := hqr.frozen 0
      have hl1 := Lib.hid (show l0 = [4, 1, 0, UInt8.ofNat fl] by rw [← hl0h.out, be_two hfh.out]; rfl)
      have hqB := Lib.hid (show q + 1 ≤ wr.heap.size by have h1 := hBr.size; have h2 := hqh.out; omega)
      clear hk0 hk
      have hlL0 : (0 : Int) ≤ (L.length : Int) := by omega
      have hlw : IntKind.u64.wrap (L.length : Int) = (L.length : Int) := wrap_u64 _ (by omega) (by have := hLz.out; omega)
      go_wp2_with (first | (go_at_call 19; refine (oput_any _ _ O (L.length : Int) 4 (hOr.slc byEnc_len) hlL0 (by unfold Wd; omega) (by have := hOlh.out; unfold Big; omega)).mono ?_; rintro e w5 ⟨r5, rfl, O5, hB5⟩; rw [Int.toNat_natCast] at O5; have hT5 := hBr.trans (hB5.mono hBr.size); have O5 := O5.rebase (b' := q + 1) (fun i hi => Nat.le_trans (Nat.le_trans hqB.out (Nat.le_refl _)) (O5.ge hi)); have b5 := (hOL.pure hB5).slc byEnc_len; have q5 := hqr.pure hB5; have z5 := Nat.le_trans hqB.out hB5.size; have e0 := q5.at 0 rfl; have e1 := q5.frozen 0) | (at_builtin; refine wpList_app (base := q + 1) rfl (.tmp 52) (.tmp 53) 50 5 rfl elem_by byEnc_len byEnc_one _ (O ++ be 4 L.length) rfl O5 _ L rfl b5 (by have := hLz.out; have := hOlh.out; rw [List.length_append, be_len]; unfold maxLen; omega) (by have := hLz.out; have := hOlh.out; rw [List.length_append, be_len]; omega) z5 ?_; intro v6 w6 hO6 hgr6 hfr6 hsh6; have hU6 := Upd.grown (S := fun k => q + 1 ≤ k) hgr6 (fun j e => O5.ge e); have q6 := q5.upd hU6 (fun e => by omega); have y0 := q6.at 0 rfl; have y1 := q6.frozen 0; obtain ⟨M6, hM6⟩ : ∃ M6, (O ++ be 4 L.length) ++ L = M6 := ⟨_, rfl⟩; rw [hM6] at hO6; have hM6h := Lib.hid hM6; clear hM6; obtain ⟨va6, vc6, rfl⟩ := own_lenB hO6))
      have q7 := q6.set 0 (.slice va6 M6.length vc6)
      have hO7 := hO6.other ⟨q, 0, none⟩ (.slice va6 M6.length vc6) (fun i hi e => by have h1 := hO6.ge hi; have h2 : i = q := e; omega)
      have hB7 := ((hT5.mono (Nat.le_of_lt hqh.out)).trans (hU6.below (Nat.le_trans (Nat.le_succ q) z5) (fun i hi => by omega))).trans ((Upd.set (S := fun i => i = q) (w := w6) (p := ⟨q, 0, none⟩) rfl (.slice va6 M6.length vc6)).below (B := q) (by have h1 := q6.lt; omega) (fun i hi => by omega))
      go_end0
      have hfin : M6 = O ++ part ([4, 1, 0, UInt8.ofNat fl] ++ stx s) := by rw [← hM6h.out, ← hl1.out, ← hL0.out]; unfold part; rw [List.append_assoc]
      exact ⟨rfl, _, q7, hO7.cast hfin, hB7⟩
set_option maxRecDepth 100000 in
set_option maxHeartbeats 12800000 in
theorem p9part3_any (w : World) (pb q : Nat) (ov tv : Value) (O : List UInt8) (s : ByteArray) (fl : Nat) (hq : Blk w q [ov]) (hO : Own (q + 1) 5 1 byEnc w ov O) (ht : Slc strEnc 1 w tv [s]) (hs : s.size ≤ 255) (hf : fl < 256) (hOl : O.length ≤ 1000) (key mid : ByteArray) (dur red : Bool) (tk tn : Int) (ts : ByteArray) (tka : Option Addr) (tkc : Nat) (tla : Option Addr) (tlc : Nat) (tks : List ByteArray) (tl : List VT) (P : Nat → Prop) (mb : Bool) (hA : Blk w pb [.string key, .bool dur, .bool red, .string mid, .int .u8 tk, .int .u64 tn, .string ts, .slice tka tks.length tkc, .slice tla tl.length tlc]) (hR : Rd P w (VT.mk tk tn ts (.slice tka tks.length tkc) (.slice tla tl.length tlc) tks tl)) (hT : Tb w) (hmb : (bits BinOp.and IntKind.u64 (fl : Int) 2 != 0) = mb) (hck : mb = true → (VT.mk tk tn ts (.slice tka tks.length tkc) (.slice tla tl.length tlc) tks tl).v.chk = 0) :
    Calls Tryz.prog 59 #[.int .u8 3, .int .u64 fl, tv, .pointer (some ⟨pb, 0, none⟩), .pointer (some ⟨q, 0, none⟩)] w fun e w' => e = .returned (.tuple #[]) ∧ ∃ r, Blk w' q [r] ∧ Own (q + 1) 5 1 byEnc w' r (O ++ part ([4, 3, 0, UInt8.ofNat fl] ++ stx s ++ (if mb = true then (VT.mk tk tn ts (.slice tka tks.length tkc) (.slice tla tl.length tlc) tks tl).v.bytes else []))) ∧ Below q w w' := by
  have hqs := hq.lt
  obtain ⟨ta, tc, rfl, -⟩ := ht.len
  have ht : Slc strEnc 1 w (.slice ta 1 tc) [s] := ht
  have hf0 : (0 : Int) ≤ (fl : Int) := by omega
  have hfh := Lib.hid hf
  have hsh := Lib.hid hs
  have hOlh := Lib.hid hOl
  have hqh := Lib.hid hqs
  have hBa := (Below.refl w.heap.size w).alloc (Nat.le_refl _) (.cells #[.int .u8 4, .int .u8 3] 5)
  have hOa : Own w.heap.size 5 1 byEnc (w.alloc (.cells #[.int .u8 4, .int .u8 3] 5)) (.slice (some ⟨w.heap.size, 0, none⟩) 2 2) [4, 3] := Own.byte2 w 4 3 4 3 rfl rfl (Nat.le_refl _)
  obtain ⟨l0, hl0⟩ : ∃ l0 : List UInt8, [4, 3] ++ be 2 fl = l0 := ⟨_, rfl⟩
  have hl0h := Lib.hid hl0
  have hl0z := Lib.hid (show l0.length = 4 by rw [← hl0, List.length_append, be_len]; rfl)
  clear hf hs hOl hqs hl0
  go_enter Tryz.func59, Tryz.ntmps59
  go_wp2_with (go_at_call 19; refine (oput_any _ _ [4, 3] (fl : Int) 2 (hOa.slc byEnc_len) hf0 (by unfold Wd; omega) (by unfold Big; simp)).mono ?_; rintro e w1 ⟨r1, rfl, O1, hB1⟩; rw [Int.toNat_natCast, hl0h.out] at O1; have hT1 := hBa.trans (hB1.mono hBa.size); have O1 := O1.rebase (b' := w.heap.size) (fun i hi => Nat.le_trans hBa.size (O1.ge hi)); have t1 := ht.pure hT1)
  go_loopw [8, 19] (fun s8 s19 wr => ∃ (k : Nat) (L : List UInt8), s19 = .int .i64 k ∧ k ≤ 1 ∧ Own w.heap.size 5 1 byEnc wr s8 L ∧ Hid (L = l0 ++ if k = 0 then [] else stx s) ∧ Below w.heap.size w wr) (fun s8 s19 _ => 1 - (intOf s19).toNat)
  case atStart => exact ⟨0, l0, rfl, by omega, O1, Lib.hid (by simp), hT1⟩
  case round =>
    obtain ⟨k, L, rfl, hk, hOL, hLe, hBr⟩ := hrel
    obtain ⟨ba, bc, rfl⟩ := own_lenB hOL
    have tr := ht.pure hBr
    by_cases hk0 : k = 0
    · subst hk0
      obtain ⟨g, off, rfl⟩ := tr.addrB (show 0 < [s].length by simp)
      have qc := tr.get 0 (by simp) 0 _ rfl
      rw [Nat.mul_one, Nat.add_zero] at qc
      have qc : wr.cell? ⟨g, off + 0, none⟩ = some (.string s) := qc
      have qd : wr.cell? ⟨g, off, none⟩ = some (.string s) := qc
      have hLz := Lib.hid (show L.length = 4 by rw [hLe.out]; simp [hl0z.out])
      have hL0 := Lib.hid (show L = l0 by rw [hLe.out]; simp)
      by_cases h0 : s.size = 0
      · obtain rfl : s = ⟨#[]⟩ := size0 h0
        clear h0
        go_wp2
        go_roundw
        case rel => exact ⟨1, L, rfl, by omega, hOL, Lib.hid (by rw [hL0.out]; simp [stx]; rfl), hBr⟩
        case measure => simp [intOf]
      · have h1 : ¬ s.toList = [] := fun e => h0 (by rw [← toList_len, e]; rfl)
        have h2 := empty_no (show 0 < s.size by omega)
        have hstx := Lib.hid (show stx s = be 1 s.size ++ s.data.toList by unfold stx; rw [if_neg h0, be_one (by have := hsh.out; omega)]; rfl)
        clear h0
        go_wp2_with (go_at_call 24; refine (oputtext_yes _ _ L s 1 (hOL.slc byEnc_len) (by omega) (by have := hsh.out; omega) (by have := hsh.out; have := hLz.out; unfold Big; omega)).mono ?_; rintro e w3 ⟨r3, rfl, O3, hB3⟩; rw [← hstx.out] at O3; have hB3r := hBr.trans (hB3.mono hBr.size); have O3 := O3.rebase (b' := w.heap.size) (fun i hi => Nat.le_trans hBr.size (O3.ge hi)))
        go_roundw
        case rel => exact ⟨1, L ++ stx s, rfl, by omega, O3, Lib.hid (by rw [hL0.out]; simp), hB3r⟩
        case measure => simp [intOf]
    · obtain rfl : k = 1 := by omega
      have hL0 := Lib.hid (show L = l0 ++ stx s by rw [hLe.out]; simp)
      have hLz := Lib.hid (show L.length ≤ 300 by have h1 := stx_len s; have h2 := hsh.out; have h3 := hl0z.out; rw [hL0.out, List.length_append]; omega)
      have hqr := hq.pure hBr
      have hOr := hO.pure hBr
      obtain ⟨oa, oc, rfl⟩ := own_lenB hO
      have hq0 := hqr.at 0 rfl; have hqf := hqr.frozen 0
      have hl1 := Lib.hid (show l0 = [4, 3, 0, UInt8.ofNat fl] by rw [← hl0h.out, be_two hfh.out]; rfl)
      have hqB := Lib.hid (show q + 1 ≤ wr.heap.size by have h1 := hBr.size; have h2 := hqh.out; omega)
      clear hk0 hk
      have hAr := hA.pure hBr
      have hRr := hR.pure hBr
      cases mb
      · have hm0 := Lib.hid hmb
        have hlL0 : (0 : Int) ≤ (L.length : Int) := by omega
        have hlw : IntKind.u64.wrap (L.length : Int) = (L.length : Int) := wrap_u64 _ (by omega) (by have := hLz.out; omega)
        go_wp2_with (first | (go_at_call 19; refine (oput_any _ _ O (L.length : Int) 4 (hOr.slc byEnc_len) hlL0 (by unfold Wd; omega) (by have := hOlh.out; unfold Big; omega)).mono ?_; rintro e w5 ⟨r5, rfl, O5, hB5⟩; rw [Int.toNat_natCast] at O5; have hT5 := hBr.trans (hB5.mono hBr.size); have O5 := O5.rebase (b' := q + 1) (fun i hi => Nat.le_trans (Nat.le_trans hqB.out (Nat.le_refl _)) (O5.ge hi)); have b5 := (hOL.pure hB5).slc byEnc_len; have q5 := hqr.pure hB5; have z5 := Nat.le_trans hqB.out hB5.size; have e0 := q5.at 0 rfl; have e1 := q5.frozen 0) | (at_builtin; refine wpList_app (base := q + 1) rfl (.tmp 52) (.tmp 53) 50 5 rfl elem_by byEnc_len byEnc_one _ (O ++ be 4 L.length) rfl O5 _ L rfl b5 (by have := hLz.out; have := hOlh.out; rw [List.length_append, be_len]; unfold maxLen; omega) (by have := hLz.out; have := hOlh.out; rw [List.length_append, be_len]; omega) z5 ?_; intro v6 w6 hO6 hgr6 hfr6 hsh6; have hU6 := Upd.grown (S := fun k => q + 1 ≤ k) hgr6 (fun j e => O5.ge e); have q6 := q5.upd hU6 (fun e => by omega); have y0 := q6.at 0 rfl; have y1 := q6.frozen 0; obtain ⟨M6, hM6⟩ : ∃ M6, (O ++ be 4 L.length) ++ L = M6 := ⟨_, rfl⟩; rw [hM6] at hO6; have hM6h := Lib.hid hM6; clear hM6; obtain ⟨va6, vc6, rfl⟩ := own_lenB hO6))
        have q7 := q6.set 0 (.slice va6 M6.length vc6)
        have hO7 := hO6.other ⟨q, 0, none⟩ (.slice va6 M6.length vc6) (fun i hi e => by have h1 := hO6.ge hi; have h2 : i = q := e; omega)
        have hB7 := ((hT5.mono (Nat.le_of_lt hqh.out)).trans (hU6.below (Nat.le_trans (Nat.le_succ q) z5) (fun i hi => by omega))).trans ((Upd.set (S := fun i => i = q) (w := w6) (p := ⟨q, 0, none⟩) rfl (.slice va6 M6.length vc6)).below (B := q) (by have h1 := q6.lt; omega) (fun i hi => by omega))
        go_end0
        have hfin : M6 = O ++ part ([4, 3, 0, UInt8.ofNat fl] ++ stx s ++ (if false = true then (VT.mk tk tn ts (.slice tka tks.length tkc) (.slice tla tl.length tlc) tks tl).v.bytes else [])) := by rw [if_neg (by simp), List.append_nil, ← hM6h.out, ← hl1.out, ← hL0.out]; unfold part; rw [List.append_assoc]
        exact ⟨rfl, _, q7, by simpa using hO7.cast hfin, hB7⟩
      · obtain ⟨xt, hxt⟩ : ∃ xt, (VT.mk tk tn ts (.slice tka tks.length tkc) (.slice tla tl.length tlc) tks tl).v.bytes = xt := ⟨_, rfl⟩
        have hav := hck rfl
        obtain ⟨-, hcn, hmay⟩ := chk_zero hav
        have hlb := Lib.hid (show xt.length ≤ 1000000 by have h4 := bytes_len _ hmay 200 hcn; rw [hxt] at h4; omega)
        have hvp := vput_any (VT.mk tk tn ts (.slice tka tks.length tkc) (.slice tla tl.length tlc) tks tl) P wr hRr (hT.pure hBr)
        rw [hav, if_pos rfl, hxt, VT.arg_mk] at hvp
        have hvph := Lib.hid hvp
        have hxth := Lib.hid hxt
        have a0 := hAr.at 0 rfl; have a1 := hAr.at 1 rfl; have a2 := hAr.at 2 rfl; have a3 := hAr.at 3 rfl; have a4 := hAr.at 4 rfl; have a5 := hAr.at 5 rfl; have a6 := hAr.at 6 rfl; have a7 := hAr.at 7 rfl; have a8 := hAr.at 8 rfl
        clear hcn hmay hvp hav hxt
        go_upto_region 10 with (first | (go_at_call 60; (with_reducible refine (hvph.out).mono ?_); rintro e w7 ⟨r7, rfl, O7, hB7⟩; obtain ⟨ra, rc, rfl⟩ := own_lenB O7; have P7 := hOL.pure hB7; have hbb := hBr.trans (hB7.mono hBr.size); have hqr7 := hqr.pure hB7; have hOr7 := hOr.pure hB7) | (at_builtin; refine wpList_app (base := w.heap.size) rfl (.tmp 45) (.tmp 46) 50 5 rfl elem_by byEnc_len byEnc_one _ L rfl P7 _ xt rfl (O7.slc byEnc_len) (by have := hLz.out; have := hlb.out; unfold maxLen; omega) (by have := hLz.out; have := hlb.out; omega) hbb.size ?_; intro v8 w8 hO8 hgr8 hfr8 hsh8; have hbx := hbb.grown hgr8 hbb.size (fun j e => P7.ge e); obtain ⟨L8, hL8⟩ : ∃ L8, L ++ xt = L8 := ⟨_, rfl⟩; rw [hL8] at hO8; have hL8h := Lib.hid hL8; clear hL8; obtain ⟨va8, vc8, rfl⟩ := own_lenB hO8))
        have hU8 := Upd.grown (S := fun k => w.heap.size ≤ k) hgr8 (fun j e => P7.ge e)
        have hqr8 := hqr7.upd hU8 (fun e => by have := hqh.out; omega)
        have hOr8 := hO.pure hbx
        have hqB8 := Lib.hid (show q + 1 ≤ w8.heap.size by have h1 := hbx.size; have h2 := hqh.out; omega)
        have hL8z := Lib.hid (show L8.length ≤ 1000300 by have h1 := hLz.out; have h2 := hlb.out; rw [← hL8h.out, List.length_append]; omega)
        clear hq0 hqf a0 a1 a2 a3 a4 a5 a6 a7 a8
        have hq0 := hqr8.at 0 rfl; have hqf := hqr8.frozen 0
        have hlL0 : (0 : Int) ≤ (L8.length : Int) := by omega
        have hlw : IntKind.u64.wrap (L8.length : Int) = (L8.length : Int) := wrap_u64 _ (by omega) (by have := hL8z.out; omega)
        go_wp2_with (first | (go_at_call 19; refine (oput_any _ _ O (L8.length : Int) 4 (hOr8.slc byEnc_len) hlL0 (by unfold Wd; omega) (by have := hOlh.out; unfold Big; omega)).mono ?_; rintro e w5 ⟨r5, rfl, O5, hB5⟩; rw [Int.toNat_natCast] at O5; have hT5 := hbx.trans (hB5.mono hbx.size); have O5 := O5.rebase (b' := q + 1) (fun i hi => Nat.le_trans (Nat.le_trans hqB8.out (Nat.le_refl _)) (O5.ge hi)); have b5 := (hO8.pure hB5).slc byEnc_len; have q5 := hqr8.pure hB5; have z5 := Nat.le_trans hqB8.out hB5.size; have e0 := q5.at 0 rfl; have e1 := q5.frozen 0) | (at_builtin; refine wpList_app (base := q + 1) rfl (.tmp 52) (.tmp 53) 50 5 rfl elem_by byEnc_len byEnc_one _ (O ++ be 4 L8.length) rfl O5 _ L8 rfl b5 (by have := hL8z.out; have := hOlh.out; rw [List.length_append, be_len]; unfold maxLen; omega) (by have := hL8z.out; have := hOlh.out; rw [List.length_append, be_len]; omega) z5 ?_; intro v6 w6 hO6 hgr6 hfr6 hsh6; have hU6 := Upd.grown (S := fun k => q + 1 ≤ k) hgr6 (fun j e => O5.ge e); have q6 := q5.upd hU6 (fun e => by omega); have y0 := q6.at 0 rfl; have y1 := q6.frozen 0; obtain ⟨M6, hM6⟩ : ∃ M6, (O ++ be 4 L8.length) ++ L8 = M6 := ⟨_, rfl⟩; rw [hM6] at hO6; have hM6h := Lib.hid hM6; clear hM6; obtain ⟨va6, vc6, rfl⟩ := own_lenB hO6))
        have q7 := q6.set 0 (.slice va6 M6.length vc6)
        have hO7 := hO6.other ⟨q, 0, none⟩ (.slice va6 M6.length vc6) (fun i hi e => by have h1 := hO6.ge hi; have h2 : i = q := e; omega)
        have hB7 := ((hT5.mono (Nat.le_of_lt hqh.out)).trans (hU6.below (Nat.le_trans (Nat.le_succ q) z5) (fun i hi => by omega))).trans ((Upd.set (S := fun i => i = q) (w := w6) (p := ⟨q, 0, none⟩) rfl (.slice va6 M6.length vc6)).below (B := q) (by have h1 := q6.lt; omega) (fun i hi => by omega))
        go_end0
        have hfin : M6 = O ++ part ([4, 3, 0, UInt8.ofNat fl] ++ stx s ++ (if true = true then (VT.mk tk tn ts (.slice tka tks.length tkc) (.slice tla tl.length tlc) tks tl).v.bytes else [])) := by rw [if_pos rfl, hxth.out, ← hM6h.out, ← hl1.out, ← hL0.out, hL8h.out]; unfold part; rw [List.append_assoc]
        exact ⟨rfl, _, q7, by simpa using hO7.cast hfin, hB7⟩
end Go.Proofs.YtflglpbjapgciaaGreatDoor

namespace Go.Proofs.YtflglpbjapgciaaGreatDoor
set_option linter.unusedSimpArgs false
set_option linter.unusedVariables false
open Go.RowKit
theorem slc_bools3 (w : World) (a b c : Bool) : Slc boolEnc 1 (w.alloc (.cells #[.bool a, .bool b, .bool c] 4)) (.slice (some ⟨w.heap.size, 0, none⟩) 3 3) [a, b, c] := by
  refine .inr ⟨w.heap.size, 0, 3, rfl, Nat.le_refl _, by unfold maxLen; omega, fun i hi j u hu => ?_⟩
  have hb := Blk.new w [.bool a, .bool b, .bool c] 4
  match i, hi, j, hu with
  | 0, _, 0, hu => exact (hb.cell 0).trans hu
  | 1, _, 0, hu => exact (hb.cell 1).trans hu
  | 2, _, 0, hu => exact (hb.cell 2).trans hu
theorem slc_bools2 (w : World) (a b : Bool) : Slc boolEnc 1 (w.alloc (.cells #[.bool a, .bool b] 4)) (.slice (some ⟨w.heap.size, 0, none⟩) 2 2) [a, b] := by
  refine .inr ⟨w.heap.size, 0, 2, rfl, Nat.le_refl _, by unfold maxLen; omega, fun i hi j u hu => ?_⟩
  have hb := Blk.new w [.bool a, .bool b] 4
  match i, hi, j, hu with
  | 0, _, 0, hu => exact (hb.cell 0).trans hu
  | 1, _, 0, hu => exact (hb.cell 1).trans hu
theorem slc_str1 (w : World) (s : ByteArray) : Slc strEnc 1 (w.alloc (.cells #[.string s] 9)) (.slice (some ⟨w.heap.size, 0, none⟩) 1 1) [s] := by
  refine .inr ⟨w.heap.size, 0, 1, rfl, Nat.le_refl _, by unfold maxLen; omega, fun i hi j u hu => ?_⟩
  have hb := Blk.new w [.string s] 9
  match i, hi, j, hu with
  | 0, _, 0, hu => exact (hb.cell 0).trans hu
theorem bits3 (key mid : ByteArray) (dur red : Bool) (v : V) : bitsN [dur, red, !key.toList.isEmpty] = fl1 ⟨key, dur, red, mid, v⟩ := by
  unfold fl1
  by_cases h0 : key.size = 0
  · have := empty_yes h0
    cases dur <;> cases red <;> simp [h0, this, bitsN]
  · have := empty_no (show 0 < key.size by omega)
    cases dur <;> cases red <;> simp [h0, this, bitsN]
theorem bits2 (key mid : ByteArray) (dur red mb : Bool) (v : V) (hm : mb = decide (v.kind = 168)) : bitsN [!mid.toList.isEmpty, mb] = fl2 ⟨key, dur, red, mid, v⟩ := by
  subst hm
  unfold fl2
  by_cases h0 : mid.size = 0
  · have := empty_yes h0
    by_cases hk : v.kind = 168 <;> simp [h0, this, hk, bitsN]
  · have := empty_no (show 0 < mid.size by omega)
    by_cases hk : v.kind = 168 <;> simp [h0, this, hk, bitsN]
theorem and2 (b c : Bool) : (bits BinOp.and IntKind.u64 ((bitsN [b, c] : Nat) : Int) 2 != 0) = c := by cases b <;> cases c <;> rfl
set_option maxRecDepth 100000 in
set_option maxHeartbeats 12800000 in
theorem p9put_any (t : PT) (P : Nat → Prop) (w : World) (hR : Rd P w t.app) (hT : Tb w) : Calls Tryz.prog 23 #[t.arg] w fun e w' => e = .returned (.tuple #[.string (if t.p.chk = 0 then t.p.text else ⟨#[]⟩), .int .i64 t.p.chk]) ∧ Below w.heap.size w w' := by
  obtain ⟨key, dur, red, mid, tv⟩ := t
  have hR : Rd _ _ tv := hR
  obtain ⟨tk, tn, ts, tka, tkc, tla, tlc, tks, tl, rfl, -⟩ := hR.open
  have hB1 := (Below.refl w.heap.size w).alloc (Nat.le_refl _) (.cells #[.string key, .bool dur, .bool red, .string mid, .int .u8 tk, .int .u64 tn, .string ts, .slice tka tks.length tkc, .slice tla tl.length tlc] 62)
  have A1 := Blk.new w [.string key, .bool dur, .bool red, .string mid, .int .u8 tk, .int .u64 tn, .string ts, .slice tka tks.length tkc, .slice tla tl.length tlc] 62
  have R1 := hR.pure hB1
  obtain ⟨px, hpx⟩ : ∃ px, (PT.mk key dur red mid (VT.mk tk tn ts (.slice tka tks.length tkc) (.slice tla tl.length tlc) tks tl)).p = px := ⟨_, rfl⟩
  obtain ⟨cx, hcx⟩ : ∃ cx, px.chk = cx := ⟨_, rfl⟩
  have hch := (p9check_any (PT.mk key dur red mid (VT.mk tk tn ts (.slice tka tks.length tkc) (.slice tla tl.length tlc) tks tl)) P _ R1 (hT.pure hB1))
  rw [hpx, hcx, PT.arg_mk] at hch
  rw [hpx, hcx, PT.arg_mk]
  have hchh := Lib.hid hch
  have hpxh := Lib.hid (show px = Pr.mk key dur red mid (VT.mk tk tn ts (.slice tka tks.length tkc) (.slice tla tl.length tlc) tks tl).v from hpx.symm)
  have hcxh := Lib.hid hcx
  clear hch hpx hcx
  have a0 := A1.at 0 rfl; have a1 := A1.at 1 rfl; have a2 := A1.at 2 rfl; have a3 := A1.at 3 rfl; have a4 := A1.at 4 rfl; have a5 := A1.at 5 rfl; have a6 := A1.at 6 rfl; have a7 := A1.at 7 rfl; have a8 := A1.at 8 rfl
  go_enter Tryz.func23, Tryz.ntmps23
  by_cases h0 : cx = 0
  rotate_left 1
  · have h1 : (cx == 0) = false := beq_eq_false_iff_ne.2 h0
    have h2 : (cx != 0) = true := bne_iff_ne.2 h0
    have hc9 := Lib.hid (show cx = 90 by rcases pr_chk px with e | e; exact absurd (hcxh.out.symm.trans e) h0; exact hcxh.out.symm.trans e)
    rw [if_neg h0]
    clear h0
    go_wp2_with (go_at_call 58; refine (hchh.out).mono ?_; rintro e w2 ⟨rfl, hB2⟩; have hB12 := hB1.trans (hB2.mono hB1.size))
    go_ret2
    exact ⟨by rw [hc9.out]; rfl, hB12⟩
  subst h0
  have hok := pr_ok.1 hcxh.out
  have hkey := Lib.hid (show key.size ≤ 255 by have := hok.1; rw [hpxh.out] at this; exact this)
  have hmid := Lib.hid (show mid.size ≤ 255 by have := hok.2.1; rw [hpxh.out] at this; exact this)
  have happ := Lib.hid (show (VT.mk tk tn ts (.slice tka tks.length tkc) (.slice tla tl.length tlc) tks tl).v = V.zero ∨ tk = 168 ∧ (VT.mk tk tn ts (.slice tka tks.length tkc) (.slice tla tl.length tlc) tks tl).v.chk = 0 by have := hok.2.2; rw [hpxh.out] at this; rcases this with e | e; exact .inl e; exact .inr ⟨by rw [← (vkind : (VT.mk tk tn ts (.slice tka tks.length tkc) (.slice tla tl.length tlc) tks tl).v.kind = tk)]; exact e.1, e.2⟩)
  clear hok
  rw [if_pos rfl]
  go_upto_region 5 with (go_at_call 58; refine (hchh.out).mono ?_; rintro e w2 ⟨rfl, hB2⟩; have A2 := A1.pure hB2; have R2 := R1.pure hB2; have hB12 := hB1.trans (hB2.mono hB1.size); clear a0 a1 a2 a3 a4 a5 a6 a7 a8; have hBq := (Below.refl w2.heap.size w2).alloc (Nat.le_refl _) (.cells #[.slice none 0 0] 50); have A3 := A2.pure hBq; have R3 := R2.pure hBq; have q3 := Blk.new w2 [.slice none 0 0] 50)

  have hs3 : (w2.alloc (.cells #[.slice none 0 0] 50)).heap.size = w2.heap.size + 1 := by simp
  have hpb := Lib.hid (show w.heap.size < w2.heap.size by have h1 := hB2.size; simp at h1; omega)
  have hTq := hB12.trans (hBq.mono hB12.size)
  generalize World.alloc w2 (.cells #[.slice none 0 0] 50) = W3 at *
  obtain ⟨n1, hn1⟩ : ∃ n, bitsN [dur, red, !key.toList.isEmpty] = n := ⟨_, rfl⟩
  have hn1h := Lib.hid hn1
  have hn1l := Lib.hid (show n1 < 256 by have := bitsN_lt [dur, red, !key.toList.isEmpty]; rw [hn1] at this; simp at this; omega)
  have hb1 := Lib.hid (show body1 px = [4, 1, 0, UInt8.ofNat n1] ++ stx key by rw [hpxh.out, ← hn1, bits3 key mid dur red (VT.mk tk tn ts (.slice tka tks.length tkc) (.slice tla tl.length tlc) tks tl).v]; rfl)
  have hs3h := Lib.hid hs3
  have hq1 := Lib.hid (show w2.heap.size ≤ W3.heap.size by omega)
  have hAh := Lib.hid (fun (u : World) (h : Below w2.heap.size W3 u) => A3.below h hpb.out)
  have R2W := Lib.hid (fun (u : World) (h : Below w2.heap.size W3 u) => R2.pure (hBq.trans h))
  have hb' := Below.refl W3.heap.size W3
  clear hn1 hs3
  obtain ⟨l5, hl5⟩ : ∃ l5, part ([4, 1, 0, UInt8.ofNat n1] ++ stx key) = l5 := ⟨_, rfl⟩
  have hl5h := Lib.hid hl5
  have hl5z := Lib.hid (show l5.length ≤ 400 by rw [← hl5, part_len]; have h1 := stx_len key; have h2 := hkey.out; simp only [List.length_append, List.length_cons, List.length_nil]; omega)
  clear hl5
  go_cut [] from 7 (fun wx => ∃ r5, Blk wx w2.heap.size [r5] ∧ Own (w2.heap.size + 1) 5 1 byEnc wx r5 l5 ∧ Below w2.heap.size W3 wx)
  case first =>
    have hb := (below_refl_dr W3).mono hq1.out
    refine wp_region_held_drew (S := fun u => Below w2.heap.size W3 u) (by kernel_rfl) hb (fun hHeld => ?_)
    refine takeY 0 11 rfl rfl (v := ?_) ?_ hHeld ?_
    rotate_left 1
    · (intro u hSw; (try dsimp only at hSw); clear hSw; go_simp; (try with_reducible rfl))
    try simp only [Act.put, lsT, lsZ, lsS]
    refine takeY 1 12 rfl rfl (v := ?_) ?_ hHeld ?_
    rotate_left 1
    · (intro u hSw; (try dsimp only at hSw); clear hSw; go_simp; (try with_reducible rfl))
    try simp only [Act.put, lsT, lsZ, lsS]
    refine takeY 2 13 rfl rfl (v := ?_) ?_ hHeld ?_
    rotate_left 1
    · (intro u hSw; (try dsimp only at hSw); have q := hAh.out u hSw; have qc := q.at 1 rfl; clear hSw; go_simp; (try with_reducible rfl))
    try simp only [Act.put, lsT, lsZ, lsS]
    refine takeY 3 14 rfl rfl (v := ?_) ?_ hHeld ?_
    rotate_left 1
    · (intro u hSw; (try dsimp only at hSw); clear hSw; go_simp; (try with_reducible rfl))
    try simp only [Act.put, lsT, lsZ, lsS]
    refine takeY 4 15 rfl rfl (v := ?_) ?_ hHeld ?_
    rotate_left 1
    · (intro u hSw; (try dsimp only at hSw); have q := hAh.out u hSw; have qc := q.at 2 rfl; clear hSw; go_simp; (try with_reducible rfl))
    try simp only [Act.put, lsT, lsZ, lsS]
    refine takeY 5 16 rfl rfl (v := ?_) ?_ hHeld ?_
    rotate_left 1
    · (intro u hSw; (try dsimp only at hSw); clear hSw; go_simp; (try with_reducible rfl))
    try simp only [Act.put, lsT, lsZ, lsS]
    refine takeY 6 17 rfl rfl (v := ?_) ?_ hHeld ?_
    rotate_left 1
    · (intro u hSw; (try dsimp only at hSw); have q := hAh.out u hSw; have qc := q.at 0 rfl; clear hSw; go_simp; (try with_reducible rfl))
    try simp only [Act.put, lsT, lsZ, lsS]
    refine takeY 7 18 rfl rfl (v := ?_) ?_ hHeld ?_
    rotate_left 1
    · (intro u hSw; (try dsimp only at hSw); clear hSw; go_simp; (try with_reducible rfl))
    try simp only [Act.put, lsT, lsZ, lsS]
    refine takeY 10 21 rfl rfl (v := ?_) ?_ hHeld ?_
    rotate_left 1
    · (intro u hSw; (try dsimp only at hSw); clear hSw; go_simp; (try with_reducible rfl))
    try simp only [Act.put, lsT, lsZ, lsS]
    refine takeY 11 22 rfl rfl (v := ?_) ?_ hHeld ?_
    rotate_left 1
    · (intro u hSw; (try dsimp only at hSw); have q := hAh.out u hSw; have qc := q.at 0 rfl; clear hSw; go_simp; (try with_reducible rfl))
    try simp only [Act.put, lsT, lsZ, lsS]
    refine wpAnyH_ready (rs := [8, 12]) (by kernel_rfl) (by simp) ?_
    refine (AllReadyH.cons rfl (fun K hK => ?_) (AllReadyH.cons rfl (fun K hK => ?_) AllReadyH.nil))
    · go_simp
      have hba : Below W3.heap.size W3 (World.drew (World.alloc W3 (.cells #[.bool dur, .bool red, .bool !key.toList.isEmpty] 4))) := (below_dr ((Below.refl W3.heap.size W3).alloc (Nat.le_refl _) (.cells #[.bool dur, .bool red, .bool !key.toList.isEmpty] 4)))
      have s19 : Slc boolEnc 1 (World.drew (World.alloc W3 (.cells #[.bool dur, .bool red, .bool !key.toList.isEmpty] 4))) (.slice (some ⟨(World.heap W3).size, 0, none⟩) 3 3) [dur, red, !key.toList.isEmpty] := (slc_bools3 W3 dur red (!key.toList.isEmpty)).pure (below_refl_dr _)
      have hb' := hb'.trans (hba.mono hb'.size)
      generalize (World.drew (World.alloc W3 (.cells #[.bool dur, .bool red, .bool !key.toList.isEmpty] 4))) = V1 at *
      have hb := hb'.mono hq1.out
      refine hK.out _ _ hb (fun hHeld => ?_)
      clear hK K
      try simp only [Act.put, lsT, lsZ, lsS]
      refine wpAnyH_ready (rs := [9, 12]) (by kernel_rfl) (by simp) ?_
      refine (AllReadyH.cons rfl (fun K hK => ?_) (AllReadyH.cons rfl (fun K hK => ?_) AllReadyH.nil))
      · go_simp
        go_at_call 61
        refine (bits_any _ _ _ s19 (by simp)).mono ?_
        rintro e w4 ⟨he, hB4⟩
        rw [hn1h.out] at he
        subst he
        have hb' := hb'.trans (hB4.mono hb'.size)
        have hb := hb'.mono hq1.out
        refine hK.out _ _ hb (fun hHeld => ?_)
        clear hK K
        try simp only [Act.put, lsT, lsZ, lsS]
        refine wpAnyH_ready (rs := [12]) (by kernel_rfl) (by simp) ?_
        refine (AllReadyH.cons rfl (fun K hK => ?_) AllReadyH.nil)
        go_simp
        have hba : Below w4.heap.size w4 (World.alloc w4 (.cells #[.string key] 9)) := ((Below.refl w4.heap.size w4).alloc (Nat.le_refl _) (.cells #[.string key] 9))
        have s23 : Slc strEnc 1 (World.alloc w4 (.cells #[.string key] 9)) (.slice (some ⟨(World.heap w4).size, 0, none⟩) 1 1) [key] := slc_str1 w4 key
        have hb' := hb'.trans (hba.mono hb'.size)
        generalize (World.alloc w4 (.cells #[.string key] 9)) = V2 at *
        have hb := hb'.mono hq1.out
        refine hK.out _ _ hb (fun hHeld => ?_)
        clear hK K
        try simp only [Act.put, lsT, lsZ, lsS]
        refine wpAnyH_ready (rs := [13]) (by kernel_rfl) (by simp) ?_
        refine (AllReadyH.cons rfl (fun K hK => ?_) AllReadyH.nil)
        go_simp
        have q4 := q3.pure hb'
        go_at_call 59
        refine (p9part1_any _ w.heap.size w2.heap.size _ _ [] key n1 q4 Own.nil s23 hkey.out hn1l.out (by simp)).mono ?_
        rintro e w5 ⟨rfl, r5, Q5, O5, hB5⟩
        have hb := hb.trans hB5
        refine hK.out _ _ hb (fun hHeld => ?_)
        clear hK K
        try simp only [Act.put, lsT, lsZ, lsS]
        refine wpAnyH_done (by kernel_rfl) ?_ _
        go_wp2_with fail
        go_meet
        exact ⟨r5, Q5, O5.cast ((List.nil_append _).trans hl5h.out), hb⟩
      · go_simp
        have hba : Below V1.heap.size V1 (World.alloc V1 (.cells #[.string key] 9)) := ((Below.refl V1.heap.size V1).alloc (Nat.le_refl _) (.cells #[.string key] 9))
        have s23 : Slc strEnc 1 (World.alloc V1 (.cells #[.string key] 9)) (.slice (some ⟨(World.heap V1).size, 0, none⟩) 1 1) [key] := slc_str1 V1 key
        have s19 := s19.pure hba
        have hb' := hb'.trans (hba.mono hb'.size)
        generalize (World.alloc V1 (.cells #[.string key] 9)) = V2 at *
        have hb := hb'.mono hq1.out
        refine hK.out _ _ hb (fun hHeld => ?_)
        clear hK K
        try simp only [Act.put, lsT, lsZ, lsS]
        refine wpAnyH_ready (rs := [9]) (by kernel_rfl) (by simp) ?_
        refine (AllReadyH.cons rfl (fun K hK => ?_) AllReadyH.nil)
        go_simp
        go_at_call 61
        refine (bits_any _ _ _ s19 (by simp)).mono ?_
        rintro e w4 ⟨he, hB4⟩
        rw [hn1h.out] at he
        subst he
        have hb' := hb'.trans (hB4.mono hb'.size)
        have hb := hb'.mono hq1.out
        have s23 := s23.pure hB4
        refine hK.out _ _ hb (fun hHeld => ?_)
        clear hK K
        try simp only [Act.put, lsT, lsZ, lsS]
        refine wpAnyH_ready (rs := [13]) (by kernel_rfl) (by simp) ?_
        refine (AllReadyH.cons rfl (fun K hK => ?_) AllReadyH.nil)
        go_simp
        have q4 := q3.pure hb'
        go_at_call 59
        refine (p9part1_any _ w.heap.size w2.heap.size _ _ [] key n1 q4 Own.nil s23 hkey.out hn1l.out (by simp)).mono ?_
        rintro e w5 ⟨rfl, r5, Q5, O5, hB5⟩
        have hb := hb.trans hB5
        refine hK.out _ _ hb (fun hHeld => ?_)
        clear hK K
        try simp only [Act.put, lsT, lsZ, lsS]
        refine wpAnyH_done (by kernel_rfl) ?_ _
        go_wp2_with fail
        go_meet
        exact ⟨r5, Q5, O5.cast ((List.nil_append _).trans hl5h.out), hb⟩
    · go_simp
      have hba : Below W3.heap.size W3 (World.drew (World.alloc W3 (.cells #[.string key] 9))) := (below_dr ((Below.refl W3.heap.size W3).alloc (Nat.le_refl _) (.cells #[.string key] 9)))
      have s23 : Slc strEnc 1 (World.drew (World.alloc W3 (.cells #[.string key] 9))) (.slice (some ⟨(World.heap W3).size, 0, none⟩) 1 1) [key] := (slc_str1 W3 key).pure (below_refl_dr _)
      have hb' := hb'.trans (hba.mono hb'.size)
      generalize (World.drew (World.alloc W3 (.cells #[.string key] 9))) = V1 at *
      have hb := hb'.mono hq1.out
      refine hK.out _ _ hb (fun hHeld => ?_)
      clear hK K
      try simp only [Act.put, lsT, lsZ, lsS]
      refine wpAnyH_ready (rs := [8]) (by kernel_rfl) (by simp) ?_
      refine (AllReadyH.cons rfl (fun K hK => ?_) AllReadyH.nil)
      go_simp
      have hba : Below V1.heap.size V1 (World.alloc V1 (.cells #[.bool dur, .bool red, .bool !key.toList.isEmpty] 4)) := ((Below.refl V1.heap.size V1).alloc (Nat.le_refl _) (.cells #[.bool dur, .bool red, .bool !key.toList.isEmpty] 4))
      have s19 : Slc boolEnc 1 (World.alloc V1 (.cells #[.bool dur, .bool red, .bool !key.toList.isEmpty] 4)) (.slice (some ⟨(World.heap V1).size, 0, none⟩) 3 3) [dur, red, !key.toList.isEmpty] := slc_bools3 V1 dur red (!key.toList.isEmpty)
      have s23 := s23.pure hba
      have hb' := hb'.trans (hba.mono hb'.size)
      generalize (World.alloc V1 (.cells #[.bool dur, .bool red, .bool !key.toList.isEmpty] 4)) = V2 at *
      have hb := hb'.mono hq1.out
      refine hK.out _ _ hb (fun hHeld => ?_)
      clear hK K
      try simp only [Act.put, lsT, lsZ, lsS]
      refine wpAnyH_ready (rs := [9]) (by kernel_rfl) (by simp) ?_
      refine (AllReadyH.cons rfl (fun K hK => ?_) AllReadyH.nil)
      go_simp
      go_at_call 61
      refine (bits_any _ _ _ s19 (by simp)).mono ?_
      rintro e w4 ⟨he, hB4⟩
      rw [hn1h.out] at he
      subst he
      have hb' := hb'.trans (hB4.mono hb'.size)
      have hb := hb'.mono hq1.out
      have s23 := s23.pure hB4
      refine hK.out _ _ hb (fun hHeld => ?_)
      clear hK K
      try simp only [Act.put, lsT, lsZ, lsS]
      refine wpAnyH_ready (rs := [13]) (by kernel_rfl) (by simp) ?_
      refine (AllReadyH.cons rfl (fun K hK => ?_) AllReadyH.nil)
      go_simp
      have q4 := q3.pure hb'
      go_at_call 59
      refine (p9part1_any _ w.heap.size w2.heap.size _ _ [] key n1 q4 Own.nil s23 hkey.out hn1l.out (by simp)).mono ?_
      rintro e w5 ⟨rfl, r5, Q5, O5, hB5⟩
      have hb := hb.trans hB5
      refine hK.out _ _ hb (fun hHeld => ?_)
      clear hK K
      try simp only [Act.put, lsT, lsZ, lsS]
      refine wpAnyH_done (by kernel_rfl) ?_ _
      go_wp2_with fail
      go_meet
      exact ⟨r5, Q5, O5.cast ((List.nil_append _).trans hl5h.out), hb⟩
  case rest =>
    obtain ⟨r5, Q5, O5, hb⟩ := hcut
    obtain ⟨ra5, rc5, rfl⟩ := own_lenB O5
    have A5 := hAh.out _ hb
    have a0 := A5.at 0 rfl; have a1 := A5.at 1 rfl; have a2 := A5.at 2 rfl; have a3 := A5.at 3 rfl; have a4 := A5.at 4 rfl; have a5 := A5.at 5 rfl; have a6 := A5.at 6 rfl; have a7 := A5.at 7 rfl; have a8 := A5.at 8 rfl
    have hTc := hTq.trans (hb.mono (Nat.le_of_lt hpb.out))
    have hRc := Lib.hid (fun (u : World) (h : Below w2.heap.size W3 u) => R2W.out u h)
    have htx := Lib.hid (show px.text = ⟨(l5 ++ (if fl2 px = 0 then [] else part (body2 px))).toArray⟩ by unfold Pr.text Pr.bytes; rw [hb1.out, hl5h.out])
    have hf2 := fun (b : Bool) (hb : b = decide (tk = 168)) => show bitsN [!mid.toList.isEmpty, b] = fl2 px by rw [hpxh.out]; exact bits2 key mid dur red b _ (by rw [(vkind : (VT.mk tk tn ts (.slice tka tks.length tkc) (.slice tla tl.length tlc) tks tl).v.kind = tk)]; exact hb)
    have hb2 := Lib.hid (show body2 px = [4, 3, 0, UInt8.ofNat (fl2 px)] ++ stx mid ++ (if tk = 168 then (VT.mk tk tn ts (.slice tka tks.length tkc) (.slice tla tl.length tlc) tks tl).v.bytes else []) by rw [hpxh.out]; unfold body2; simp only [(vkind : (VT.mk tk tn ts (.slice tka tks.length tkc) (.slice tla tl.length tlc) tks tl).v.kind = tk)])
    have hf2h := Lib.hid hf2
    clear hf2
    by_cases hk : tk = 168
    · subst hk
      have hav := Lib.hid (show (VT.mk 168 tn ts (.slice tka tks.length tkc) (.slice tla tl.length tlc) tks tl).v.chk = 0 by
        rcases happ.out with e | e
        · have := congrArg V.kind e
          rw [vkind] at this; exact absurd this (by decide)
        · exact e.2)
      have hnf := hf2h.out true rfl
      obtain ⟨n2, hn2⟩ : ∃ n, bitsN [!mid.toList.isEmpty, true] = n := ⟨_, rfl⟩
      have hn2h := Lib.hid hn2
      have hn2l := Lib.hid (show n2 < 256 by have := bitsN_lt [!mid.toList.isEmpty, true]; rw [hn2] at this; simp at this; omega)
      have hfn := Lib.hid (show fl2 px = n2 by rw [← hn2]; exact hnf.symm)
      have hmb := Lib.hid (show (bits BinOp.and IntKind.u64 (n2 : Int) 2 != 0) = true by rw [← hn2]; exact and2 _ _)
      have hnz : ((n2 : Int) != 0) = true := by rw [← hn2]; cases mid.toList.isEmpty <;> rfl
      have hny : ¬ (n2 : Int) = 0 := by rw [← hn2]; cases mid.toList.isEmpty <;> decide
      have sb2 := slc_bools2 wc (!mid.toList.isEmpty) true
      have hBb := (Below.refl wc.heap.size wc).alloc (Nat.le_refl _) (.cells #[.bool !mid.toList.isEmpty, .bool true] 4)
      have hTb := hTc.trans (hBb.mono hTc.size)
      have A6 := A5.pure hBb; have Q6 := Q5.pure hBb; have O6 := O5.pure hBb
      have R6 := (hRc.out _ hb).pure hBb
      clear hn2 hnf
      go_upto_region 7 with (go_at_call 61; refine (bits_any _ _ _ sb2 (by simp)).mono ?_; rintro e w7 ⟨he, hB7⟩; rw [hn2h.out] at he; subst he; have A7 := A6.pure hB7; have Q7 := Q6.pure hB7; have O7 := O6.pure hB7; have R7 := R6.pure hB7; have hT7 := hTb.trans (hB7.mono hTb.size))
      clear a0 a1 a2 a3 a4 a5 a6 a7 a8
      have hq1w := Lib.hid (show w2.heap.size ≤ w7.heap.size by have := Q7.lt; omega)
      have a0 := A7.at 0 rfl; have a1 := A7.at 1 rfl; have a2 := A7.at 2 rfl; have a3 := A7.at 3 rfl; have a4 := A7.at 4 rfl; have a5 := A7.at 5 rfl; have a6 := A7.at 6 rfl; have a7 := A7.at 7 rfl; have a8 := A7.at 8 rfl
      have hBs := (Below.refl w7.heap.size w7).alloc (Nat.le_refl _) (.cells #[.string mid] 9)
      have A8 := A7.pure hBs; have Q8 := Q7.pure hBs; have O8 := O7.pure hBs; have R8 := R7.pure hBs; have s8 := slc_str1 w7 mid
      have hT8 := hT7.trans (hBs.mono hT7.size)
      have hTb8 := hT.pure hT8
      have hck : true = true → (VT.mk 168 tn ts (.slice tka tks.length tkc) (.slice tla tl.length tlc) tks tl).v.chk = 0 := fun _ => hav.out
      go_upto_region 9 with (go_at_call 59; refine (p9part3_any _ w.heap.size w2.heap.size _ _ l5 mid n2 Q8 O8 s8 hmid.out hn2l.out (by have := hl5z.out; omega) key mid dur red 168 tn ts tka tkc tla tlc tks tl _ true A8 R8 hTb8 hmb.out hck).mono ?_; rintro e w9 ⟨rfl, r9, Q9, O9, hB9⟩; have hT9 := hT8.trans (hB9.mono (Nat.le_of_lt hpb.out)))
      obtain ⟨l9, hl9⟩ : ∃ l9, l5 ++ part ([4, 3, 0, UInt8.ofNat n2] ++ stx mid ++ (if true = true then (VT.mk 168 tn ts (.slice tka tks.length tkc) (.slice tla tl.length tlc) tks tl).v.bytes else [])) = l9 := ⟨_, rfl⟩
      have hl9h := Lib.hid hl9
      have O9 := O9.cast hl9
      obtain ⟨ra9, rc9, rfl⟩ := own_lenB O9
      have hq9 := Q9.at 0 rfl
      have cv := conv_str w9 _ l9 (O9.slc byEnc_len)
      clear hl9
      have hfin := Lib.hid (show px.text = ⟨l9.toArray⟩ by rw [htx.out, hfn.out, if_neg (by have := hny; omega), hb2.out, hfn.out, ← hl9h.out]; rfl)
      go_wp2
      go_ret2
      exact ⟨by rw [hfin.out]; rfl, hT9⟩
    · have h3 : decide (tk = 168) = false := decide_eq_false hk
      have h4 : (tk == 168) = false := beq_eq_false_iff_ne.2 hk
      have hnf := hf2h.out false h3.symm
      have hk0 := Lib.hid hk
      clear hk
      by_cases hm : mid.size = 0
      · obtain rfl : mid = ⟨#[]⟩ := size0 hm
        have hnf : bitsN [false, false] = fl2 px := by rw [show (⟨#[]⟩ : ByteArray).toList.isEmpty = true from empty_yes rfl] at hnf; exact hnf
        clear hm
        obtain ⟨n2, hn2⟩ : ∃ n, bitsN [false, false] = n := ⟨_, rfl⟩
        have hn2h := Lib.hid hn2
        have hn2l := Lib.hid (show n2 < 256 by have := bitsN_lt [false, false]; rw [hn2] at this; simp at this; omega)
        have hfn := Lib.hid (show fl2 px = n2 by rw [← hn2]; exact hnf.symm)
        have hmb := Lib.hid (show (bits BinOp.and IntKind.u64 (n2 : Int) 2 != 0) = false by rw [← hn2]; exact and2 _ _)
        have hnz : ((n2 : Int) != 0) = false := by rw [← hn2]; rfl
        have hny : (n2 : Int) = 0 := by rw [← hn2]; decide
        have sb2 := slc_bools2 wc false false
        have hBb := (Below.refl wc.heap.size wc).alloc (Nat.le_refl _) (.cells #[.bool false, .bool false] 4)
        have hTb := hTc.trans (hBb.mono hTc.size)
        have A6 := A5.pure hBb; have Q6 := Q5.pure hBb; have O6 := O5.pure hBb
        have R6 := (hRc.out _ hb).pure hBb
        clear hn2 hnf
        go_upto_region 7 with (go_at_call 61; refine (bits_any _ _ _ sb2 (by simp)).mono ?_; rintro e w7 ⟨he, hB7⟩; rw [hn2h.out] at he; subst he; have A7 := A6.pure hB7; have Q7 := Q6.pure hB7; have O7 := O6.pure hB7; have R7 := R6.pure hB7; have hT7 := hTb.trans (hB7.mono hTb.size))
        clear a0 a1 a2 a3 a4 a5 a6 a7 a8
        have hq7 := Q7.at 0 rfl
        have cv := conv_str w7 _ l5 (O7.slc byEnc_len)
        go_wp2
        go_ret2
        exact ⟨by rw [htx.out, hfn.out, if_pos (by have := hny; omega), List.append_nil]; rfl, hT7⟩
      · have h1 : ¬ mid.toList = [] := fun e => hm (by rw [← toList_len, e]; rfl)
        have h2 := empty_no (show 0 < mid.size by omega)
        rw [h2] at hnf
        have hnf : bitsN [true, false] = fl2 px := hnf
        clear hm
        obtain ⟨n2, hn2⟩ : ∃ n, bitsN [true, false] = n := ⟨_, rfl⟩
        have hn2h := Lib.hid hn2
        have hn2l := Lib.hid (show n2 < 256 by have := bitsN_lt [true, false]; rw [hn2] at this; simp at this; omega)
        have hfn := Lib.hid (show fl2 px = n2 by rw [← hn2]; exact hnf.symm)
        have hmb := Lib.hid (show (bits BinOp.and IntKind.u64 (n2 : Int) 2 != 0) = false by rw [← hn2]; exact and2 _ _)
        have hnz : ((n2 : Int) != 0) = true := by rw [← hn2]; rfl
        have hny : ¬ (n2 : Int) = 0 := by rw [← hn2]; decide
        have sb2 := slc_bools2 wc true false
        have hBb := (Below.refl wc.heap.size wc).alloc (Nat.le_refl _) (.cells #[.bool true, .bool false] 4)
        have hTb := hTc.trans (hBb.mono hTc.size)
        have A6 := A5.pure hBb; have Q6 := Q5.pure hBb; have O6 := O5.pure hBb
        have R6 := (hRc.out _ hb).pure hBb
        clear hn2 hnf
        go_upto_region 7 with (go_at_call 61; refine (bits_any _ _ _ sb2 (by simp)).mono ?_; rintro e w7 ⟨he, hB7⟩; rw [hn2h.out] at he; subst he; have A7 := A6.pure hB7; have Q7 := Q6.pure hB7; have O7 := O6.pure hB7; have R7 := R6.pure hB7; have hT7 := hTb.trans (hB7.mono hTb.size))
        clear a0 a1 a2 a3 a4 a5 a6 a7 a8
        have hq1w := Lib.hid (show w2.heap.size ≤ w7.heap.size by have := Q7.lt; omega)
        have a0 := A7.at 0 rfl; have a1 := A7.at 1 rfl; have a2 := A7.at 2 rfl; have a3 := A7.at 3 rfl; have a4 := A7.at 4 rfl; have a5 := A7.at 5 rfl; have a6 := A7.at 6 rfl; have a7 := A7.at 7 rfl; have a8 := A7.at 8 rfl
        have hBs := (Below.refl w7.heap.size w7).alloc (Nat.le_refl _) (.cells #[.string mid] 9)
        have A8 := A7.pure hBs; have Q8 := Q7.pure hBs; have O8 := O7.pure hBs; have R8 := R7.pure hBs; have s8 := slc_str1 w7 mid
        have hT8 := hT7.trans (hBs.mono hT7.size)
        have hTb8 := hT.pure hT8
        have hck : false = true → (VT.mk tk tn ts (.slice tka tks.length tkc) (.slice tla tl.length tlc) tks tl).v.chk = 0 := fun e => absurd e (by decide)
        go_upto_region 9 with (go_at_call 59; refine (p9part3_any _ w.heap.size w2.heap.size _ _ l5 mid n2 Q8 O8 s8 hmid.out hn2l.out (by have := hl5z.out; omega) key mid dur red tk tn ts tka tkc tla tlc tks tl _ false A8 R8 hTb8 hmb.out hck).mono ?_; rintro e w9 ⟨rfl, r9, Q9, O9, hB9⟩; have hT9 := hT8.trans (hB9.mono (Nat.le_of_lt hpb.out)))
        obtain ⟨l9, hl9⟩ : ∃ l9, l5 ++ part ([4, 3, 0, UInt8.ofNat n2] ++ stx mid ++ (if false = true then (VT.mk tk tn ts (.slice tka tks.length tkc) (.slice tla tl.length tlc) tks tl).v.bytes else [])) = l9 := ⟨_, rfl⟩
        have hl9h := Lib.hid hl9
        have O9 := O9.cast hl9
        obtain ⟨ra9, rc9, rfl⟩ := own_lenB O9
        have hq9 := Q9.at 0 rfl
        have cv := conv_str w9 _ l9 (O9.slc byEnc_len)
        clear hl9
        have hfin := Lib.hid (show px.text = ⟨l9.toArray⟩ by rw [htx.out, hfn.out, if_neg (by have := hny; omega), hb2.out, hfn.out, ← hl9h.out]; rw [if_neg hk0.out, if_neg (by decide)])
        go_wp2
        go_ret2
        exact ⟨by rw [hfin.out]; rfl, hT9⟩
end Go.Proofs.YtflglpbjapgciaaGreatDoor
