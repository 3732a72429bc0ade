/- Values: Small, the document's: it answers (which, no law asks). No condition. Written by gen_valW.py. (Texts joined.) -/
import Derived.Test.YtflglpbjapgciaaGreatDoorKW

namespace Go.Proofs.YtflglpbjapgciaaGreatDoor
set_option linter.unusedSimpArgs false
set_option linter.unusedVariables false
open Go.RowKit
theorem upd_of_below {B : Nat} {w w' : World} (h : Below B w w') : Upd (fun k => B ≤ k) w w' := ⟨h.os, h.tape, h.output, h.size, fun k hk hs => h.block k (by omega)⟩
theorem Rd.bel {B C : Nat} {w w' : World} {t : VT} (h : Rd (· < B) w t) (hB : Below C w w') (hC : B ≤ C) : Rd (· < B) w' t := h.upd (upd_of_below hB) (fun b (hb : b < B) (hs : C ≤ b) => by omega)
theorem Rd.here {P : Nat → Prop} {w : World} {t : VT} (h : Rd P w t) : Rd (· < w.heap.size) w t := h.weaken (fun b hb _ => hb)
theorem bytesL_step (m : Bool) (ks : List ByteArray) (l : List V) (k : Nat) (hk : k < l.length) (hm : m = true → k < ks.length) :
    V.bytesL m (ks.drop k) (l.drop k) = (if m then be 1 (ks.getD k ByteArray.empty).size ++ (ks.getD k ByteArray.empty).data.toList else []) ++ (l[k].bytes ++ V.bytesL m (ks.drop (k + 1)) (l.drop (k + 1))) := by
  rw [List.drop_eq_getElem_cons hk]
  conv => lhs; unfold V.bytesL
  rw [List.tail_drop]
  cases m
  · rfl
  · have hk2 := hm rfl
    rw [List.drop_eq_getElem_cons hk2]
    simp [List.getD, List.getElem?_eq_getElem hk2]
theorem bytes_vt {tk tn : Int} {ts : ByteArray} {kv lv : Value} {ks : List ByteArray} {l : List VT} : (VT.mk tk tn ts kv lv ks l).v.bytes = UInt8.ofNat tk.toNat ::
    (if tk = 8 ∨ tk = 2 then be 1 tn.toNat
     else if tk = 49 ∨ tk = 50 then be 8 tn.toNat
     else if tk = 149 then be 2 ts.size ++ ts.data.toList
     else if tk = 160 then be 4 ts.size ++ ts.data.toList
     else if tk = 240 then []
     else be 4 (4 + (V.bytesL (tk == 168) ks (l.map VT.v)).length) ++ (be 4 l.length ++ V.bytesL (tk == 168) ks (l.map VT.v))) := by
  rw [VT.v_eq]; conv => lhs; unfold V.bytes
  show UInt8.ofNat tk.toNat :: (if tk = 8 ∨ tk = 2 then be 1 tn.toNat else if tk = 49 ∨ tk = 50 then be 8 tn.toNat else if tk = 149 then be 2 ts.size ++ ts.data.toList else if tk = 160 then be 4 ts.size ++ ts.data.toList else if tk = 240 then [] else be 4 (4 + (V.bytesL (tk == 168) ks (l.map VT.v)).length) ++ (be 4 (l.map VT.v).length ++ V.bytesL (tk == 168) ks (l.map VT.v))) = _
  rw [List.length_map]
theorem bytes_pos (v : V) : 1 ≤ v.bytes.length := by cases v; unfold V.bytes; simp
theorem bytesL_ge (m : Bool) : ∀ (l : List V) (ks : List ByteArray), l.length ≤ (V.bytesL m ks l).length
  | [], ks => by simp
  | x :: xs, ks => by
    unfold V.bytesL
    have h1 := bytes_pos x
    have h2 := bytesL_ge m xs ks.tail
    rw [List.length_append, List.length_append, List.length_cons]; omega
theorem u64_len {n : Nat} (h : Big n) : IntKind.u64.wrap (n : Int) = (n : Int) := wrap_u64 _ (by omega) (by have := h.le; omega)

set_option maxRecDepth 100000 in
set_option maxHeartbeats 6400000 in
theorem put_any (t : VT) : ∀ (B : Nat) (w : World) (bv : Value) (L : List UInt8), Rd (· < B) w t → Own B 5 1 byEnc w bv L → B ≤ w.heap.size → t.v.may = true → Big (L.length + t.v.bytes.length + 100) → Calls Tryz.prog 92 #[bv, t.arg] w fun e w' => ∃ r, e = .returned r ∧ Own B 5 1 byEnc w' r (L ++ t.v.bytes) ∧ Below B w w' := by
  induction t using VT.ind with
  | h t ih =>
    intro B w bv L hR hb hBs hmay hbig
    have hRt := hR
    obtain ⟨tk, tn, ts, ka, kc, la, lc, ks, l, rfl, hK, hL, hmk, hml⟩ := hR.open
    rw [VT.arg_mk]
    have hsub : ∀ x ∈ l, Rd (· < B) w x := hR.sub
    have ih' : ∀ x ∈ l, ∀ (B : Nat) (w : World) (bv : Value) (L : List UInt8), Rd (· < B) w x → Own B 5 1 byEnc w bv L → B ≤ w.heap.size → x.v.may = true → Big (L.length + x.v.bytes.length + 100) → Calls Tryz.prog 92 #[bv, x.arg] w fun e w' => ∃ r, e = .returned r ∧ Own B 5 1 byEnc w' r (L ++ x.v.bytes) ∧ Below B w w' := ih
    have ihh := Lib.hid ih'
    have hbn0 : 0 ≤ tn := hR.n0
    have hbn1 := Lib.hid (show tn < 18446744073709551616 from hR.n1)
    have hRh := Lib.hid hRt
    rw [may_vt, Bool.and_eq_true] at hmay
    obtain ⟨hhead, hmL⟩ := hmay
    have hbytes := @bytes_vt tk tn ts (.slice ka ks.length kc) (.slice la l.length lc) ks l
    obtain ⟨tot, htot⟩ : ∃ tot, (VT.mk tk tn ts (.slice ka ks.length kc) (.slice la l.length lc) ks l).v.bytes = tot := ⟨_, rfl⟩
    rw [htot] at hbytes hbig ⊢
    have hbh := Lib.hid hbytes
    have hbigh := Lib.hid hbig
    have hmLh := Lib.hid hmL
    clear ih ih' hsub hR hRt hbytes htot hbig hmL
    obtain ⟨ba, bn, bc, rfl⟩ := hb.shape3
    have hB0 := (Below.refl w.heap.size w).alloc (Nat.le_refl _) (.cells #[.int .u8 tk, .int .u64 tn, .string ts, .slice ka ks.length kc, .slice la l.length lc] 60)
    have b0 := Blk.new w [.int .u8 tk, .int .u64 tn, .string ts, .slice ka ks.length kc, .slice la l.length lc] 60
    have hO0 := hb.alloc (.cells #[.int .u8 tk, .int .u64 tn, .string ts, .slice ka ks.length kc, .slice la l.length lc] 60)
    have hB1 : Below B w (w.alloc (.cells #[.int .u8 tk, .int .u64 tn, .string ts, .slice ka ks.length kc, .slice la l.length lc] 60)) := hB0.mono hBs
    have hB2 := hB1.alloc (Nat.le_trans hBs hB1.size) (.cells #[.int .u8 tk] 5)
    have hbs2 := Nat.le_trans hBs hB2.size
    have b2 := b0.alloc (.cells #[.int .u8 tk] 5)
    have hO2 := hO0.alloc (.cells #[.int .u8 tk] 5)
    have hne := Lib.hid (show ¬ (Value.slice ba bn bc).ownBlock = some w.heap.size from fun e => by have := hb.lt e; omega)
    have hlt2 : w.heap.size + 2 ≤ ((w.alloc (.cells #[.int .u8 tk, .int .u64 tn, .string ts, .slice ka ks.length kc, .slice la l.length lc] 60)).alloc (.cells #[.int .u8 tk] 5)).heap.size := by simp
    have hk1 : tk = 240 ∨ tk = 8 ∨ tk = 2 ∨ tk = 49 ∨ tk = 50 ∨ tk = 149 ∨ tk = 160 ∨ tk = 168 ∨ tk = 169 := by
      rcases headOk_cases hhead with h | h | h | h | h | h | h | h <;> omega
    have hkb : tk = ((UInt8.ofNat tk.toNat).toNat : Int) := by rcases hk1 with rfl | rfl | rfl | rfl | rfl | rfl | rfl | rfl | rfl <;> rfl
    have hsk := (Own.byte1 (w.alloc (.cells #[.int .u8 tk, .int .u64 tn, .string ts, .slice ka ks.length kc, .slice la l.length lc] 60)) (UInt8.ofNat tk.toNat) tk hkb (Nat.le_refl _)).slc byEnc_len
    rw [show (w.alloc (.cells #[.int .u8 tk, .int .u64 tn, .string ts, .slice ka ks.length kc, .slice la l.length lc] 60)).heap.size = w.heap.size + 1 by simp] at hsk
    clear hkb hk1
    have hhd := headOk_cases hhead
    clear hhead
    rcases hhd with h | h | h | h | h | h | h | h
    · obtain ⟨rfl, -⟩ := h
      have hfin := Lib.hid (show L ++ tot = L ++ [UInt8.ofNat (240 : Int).toNat] by rw [hbh.out]; simp)
      go_enter Tryz.func92, Tryz.ntmps92
      go_wp2_with (first | (at_builtin; refine wpList_app (base := B) rfl (.tmp 8) (.tmp 11) 50 5 rfl elem_by byEnc_len byEnc_one _ L rfl hO2 _ [UInt8.ofNat (240 : Int).toNat] rfl hsk (by have := hbigh.out.le; simp; unfold maxLen; omega) (by have := hbigh.out.le; simp; omega) hbs2 ?_; intro v3 w3 hO3 hgr3 hfr3 hsh3; obtain ⟨va, vn, vc, rfl⟩ := hO3.shape3; have hu3 := Upd.grown (S := fun j => (Value.slice ba bn bc).ownBlock = some j) hgr3 (fun j e => e); have k3 := b2.upd hu3 hne.out; have c0 := k3.at 0 rfl; have c1 := k3.at 1 rfl; have c2 := k3.at 2 rfl; have c3 := k3.at 3 rfl; have c4 := k3.at 4 rfl; have hB3 := hB2.grown hgr3 hbs2 (fun j e => hb.ge e)))
      go_ret
      exact ⟨_, rfl, by rw [hfin.out]; exact hO3, hB3⟩
    · obtain ⟨rfl, -⟩ := h
      have hfin := Lib.hid (show L ++ tot = (L ++ [UInt8.ofNat (8 : Int).toNat]) ++ be 1 tn.toNat by rw [hbh.out]; simp)
      go_enter Tryz.func92, Tryz.ntmps92
      go_wp2_with (first | (at_builtin; refine wpList_app (base := B) rfl (.tmp 8) (.tmp 11) 50 5 rfl elem_by byEnc_len byEnc_one _ L rfl hO2 _ [UInt8.ofNat (8 : Int).toNat] rfl hsk (by have := hbigh.out.le; simp; unfold maxLen; omega) (by have := hbigh.out.le; simp; omega) hbs2 ?_; intro v3 w3 hO3 hgr3 hfr3 hsh3; obtain ⟨va, vn, vc, rfl⟩ := hO3.shape3; have hu3 := Upd.grown (S := fun j => (Value.slice ba bn bc).ownBlock = some j) hgr3 (fun j e => e); have k3 := b2.upd hu3 hne.out; have c0 := k3.at 0 rfl; have c1 := k3.at 1 rfl; have c2 := k3.at 2 rfl; have c3 := k3.at 3 rfl; have c4 := k3.at 4 rfl; have hB3 := hB2.grown hgr3 hbs2 (fun j e => hb.ge e)) | (go_at_call 19; refine (oput_any _ _ (L ++ [UInt8.ofNat (8 : Int).toNat]) tn 1 (hO3.slc byEnc_len) hbn0 (by unfold Wd; omega) (by rw [List.length_append]; exact hbigh.out.mono (by simp; omega))).mono ?_; rintro e w4 ⟨r4, rfl, hO4, hB4⟩))
      go_ret
      exact ⟨_, rfl, by rw [hfin.out]; exact hO4.rebase (fun i hi => Nat.le_trans (Nat.le_trans hBs hB3.size) (hO4.ge hi)), hB3.trans (hB4.mono (Nat.le_trans hBs hB3.size))⟩
    · obtain ⟨rfl, -⟩ := h
      have hfin := Lib.hid (show L ++ tot = (L ++ [UInt8.ofNat (2 : Int).toNat]) ++ be 1 tn.toNat by rw [hbh.out]; simp)
      go_enter Tryz.func92, Tryz.ntmps92
      go_wp2_with (first | (at_builtin; refine wpList_app (base := B) rfl (.tmp 8) (.tmp 11) 50 5 rfl elem_by byEnc_len byEnc_one _ L rfl hO2 _ [UInt8.ofNat (2 : Int).toNat] rfl hsk (by have := hbigh.out.le; simp; unfold maxLen; omega) (by have := hbigh.out.le; simp; omega) hbs2 ?_; intro v3 w3 hO3 hgr3 hfr3 hsh3; obtain ⟨va, vn, vc, rfl⟩ := hO3.shape3; have hu3 := Upd.grown (S := fun j => (Value.slice ba bn bc).ownBlock = some j) hgr3 (fun j e => e); have k3 := b2.upd hu3 hne.out; have c0 := k3.at 0 rfl; have c1 := k3.at 1 rfl; have c2 := k3.at 2 rfl; have c3 := k3.at 3 rfl; have c4 := k3.at 4 rfl; have hB3 := hB2.grown hgr3 hbs2 (fun j e => hb.ge e)) | (go_at_call 19; refine (oput_any _ _ (L ++ [UInt8.ofNat (2 : Int).toNat]) tn 1 (hO3.slc byEnc_len) hbn0 (by unfold Wd; omega) (by rw [List.length_append]; exact hbigh.out.mono (by simp; omega))).mono ?_; rintro e w4 ⟨r4, rfl, hO4, hB4⟩))
      go_ret
      exact ⟨_, rfl, by rw [hfin.out]; exact hO4.rebase (fun i hi => Nat.le_trans (Nat.le_trans hBs hB3.size) (hO4.ge hi)), hB3.trans (hB4.mono (Nat.le_trans hBs hB3.size))⟩
    · obtain ⟨hk, -⟩ := h
      rcases hk with rfl | rfl
      · skip
        have hfin := Lib.hid (show L ++ tot = (L ++ [UInt8.ofNat (49 : Int).toNat]) ++ be 8 tn.toNat by rw [hbh.out]; simp)
        go_enter Tryz.func92, Tryz.ntmps92
        go_wp2_with (first | (at_builtin; refine wpList_app (base := B) rfl (.tmp 8) (.tmp 11) 50 5 rfl elem_by byEnc_len byEnc_one _ L rfl hO2 _ [UInt8.ofNat (49 : Int).toNat] rfl hsk (by have := hbigh.out.le; simp; unfold maxLen; omega) (by have := hbigh.out.le; simp; omega) hbs2 ?_; intro v3 w3 hO3 hgr3 hfr3 hsh3; obtain ⟨va, vn, vc, rfl⟩ := hO3.shape3; have hu3 := Upd.grown (S := fun j => (Value.slice ba bn bc).ownBlock = some j) hgr3 (fun j e => e); have k3 := b2.upd hu3 hne.out; have c0 := k3.at 0 rfl; have c1 := k3.at 1 rfl; have c2 := k3.at 2 rfl; have c3 := k3.at 3 rfl; have c4 := k3.at 4 rfl; have hB3 := hB2.grown hgr3 hbs2 (fun j e => hb.ge e)) | (go_at_call 19; refine (oput_any _ _ (L ++ [UInt8.ofNat (49 : Int).toNat]) tn 8 (hO3.slc byEnc_len) hbn0 (by unfold Wd; omega) (by rw [List.length_append]; exact hbigh.out.mono (by simp; omega))).mono ?_; rintro e w4 ⟨r4, rfl, hO4, hB4⟩))
        go_ret
        exact ⟨_, rfl, by rw [hfin.out]; exact hO4.rebase (fun i hi => Nat.le_trans (Nat.le_trans hBs hB3.size) (hO4.ge hi)), hB3.trans (hB4.mono (Nat.le_trans hBs hB3.size))⟩
      · skip
        have hfin := Lib.hid (show L ++ tot = (L ++ [UInt8.ofNat (50 : Int).toNat]) ++ be 8 tn.toNat by rw [hbh.out]; simp)
        go_enter Tryz.func92, Tryz.ntmps92
        go_wp2_with (first | (at_builtin; refine wpList_app (base := B) rfl (.tmp 8) (.tmp 11) 50 5 rfl elem_by byEnc_len byEnc_one _ L rfl hO2 _ [UInt8.ofNat (50 : Int).toNat] rfl hsk (by have := hbigh.out.le; simp; unfold maxLen; omega) (by have := hbigh.out.le; simp; omega) hbs2 ?_; intro v3 w3 hO3 hgr3 hfr3 hsh3; obtain ⟨va, vn, vc, rfl⟩ := hO3.shape3; have hu3 := Upd.grown (S := fun j => (Value.slice ba bn bc).ownBlock = some j) hgr3 (fun j e => e); have k3 := b2.upd hu3 hne.out; have c0 := k3.at 0 rfl; have c1 := k3.at 1 rfl; have c2 := k3.at 2 rfl; have c3 := k3.at 3 rfl; have c4 := k3.at 4 rfl; have hB3 := hB2.grown hgr3 hbs2 (fun j e => hb.ge e)) | (go_at_call 19; refine (oput_any _ _ (L ++ [UInt8.ofNat (50 : Int).toNat]) tn 8 (hO3.slc byEnc_len) hbn0 (by unfold Wd; omega) (by rw [List.length_append]; exact hbigh.out.mono (by simp; omega))).mono ?_; rintro e w4 ⟨r4, rfl, hO4, hB4⟩))
        go_ret
        exact ⟨_, rfl, by rw [hfin.out]; exact hO4.rebase (fun i hi => Nat.le_trans (Nat.le_trans hBs hB3.size) (hO4.ge hi)), hB3.trans (hB4.mono (Nat.le_trans hBs hB3.size))⟩
    · obtain ⟨rfl, -, hsz, -⟩ := h
      have hfin := Lib.hid (show L ++ tot = (L ++ [UInt8.ofNat (149 : Int).toNat]) ++ (be 2 ts.size ++ ts.data.toList) by rw [hbh.out]; simp)
      have hlen2 := Lib.hid (show tot.length = 1 + 2 + ts.size by rw [hbh.out]; simp [be_len, ba_len]; omega)
      have hszh := Lib.hid hsz
      clear hsz
      go_enter Tryz.func92, Tryz.ntmps92
      go_wp2_with (first | (at_builtin; refine wpList_app (base := B) rfl (.tmp 8) (.tmp 11) 50 5 rfl elem_by byEnc_len byEnc_one _ L rfl hO2 _ [UInt8.ofNat (149 : Int).toNat] rfl hsk (by have := hbigh.out.le; simp; unfold maxLen; omega) (by have := hbigh.out.le; simp; omega) hbs2 ?_; intro v3 w3 hO3 hgr3 hfr3 hsh3; obtain ⟨va, vn, vc, rfl⟩ := hO3.shape3; have hu3 := Upd.grown (S := fun j => (Value.slice ba bn bc).ownBlock = some j) hgr3 (fun j e => e); have k3 := b2.upd hu3 hne.out; have c0 := k3.at 0 rfl; have c1 := k3.at 1 rfl; have c2 := k3.at 2 rfl; have c3 := k3.at 3 rfl; have c4 := k3.at 4 rfl; have hB3 := hB2.grown hgr3 hbs2 (fun j e => hb.ge e)) | (go_at_call 24; refine (oputtext_yes _ _ (L ++ [UInt8.ofNat (149 : Int).toNat]) ts 2 (hO3.slc byEnc_len) (by omega) (by have := hszh.out; omega) (hbigh.out.mono (by have := hlen2.out; simp; omega))).mono ?_; rintro e w4 ⟨r4, rfl, hO4, hB4⟩))
      go_ret
      exact ⟨_, rfl, by rw [hfin.out]; exact hO4.rebase (fun i hi => Nat.le_trans (Nat.le_trans hBs hB3.size) (hO4.ge hi)), hB3.trans (hB4.mono (Nat.le_trans hBs hB3.size))⟩
    · obtain ⟨rfl, -, hsz, -⟩ := h
      have hfin := Lib.hid (show L ++ tot = (L ++ [UInt8.ofNat (160 : Int).toNat]) ++ (be 4 ts.size ++ ts.data.toList) by rw [hbh.out]; simp)
      have hlen2 := Lib.hid (show tot.length = 1 + 4 + ts.size by rw [hbh.out]; simp [be_len, ba_len]; omega)
      have hszh := Lib.hid hsz
      clear hsz
      go_enter Tryz.func92, Tryz.ntmps92
      go_wp2_with (first | (at_builtin; refine wpList_app (base := B) rfl (.tmp 8) (.tmp 11) 50 5 rfl elem_by byEnc_len byEnc_one _ L rfl hO2 _ [UInt8.ofNat (160 : Int).toNat] rfl hsk (by have := hbigh.out.le; simp; unfold maxLen; omega) (by have := hbigh.out.le; simp; omega) hbs2 ?_; intro v3 w3 hO3 hgr3 hfr3 hsh3; obtain ⟨va, vn, vc, rfl⟩ := hO3.shape3; have hu3 := Upd.grown (S := fun j => (Value.slice ba bn bc).ownBlock = some j) hgr3 (fun j e => e); have k3 := b2.upd hu3 hne.out; have c0 := k3.at 0 rfl; have c1 := k3.at 1 rfl; have c2 := k3.at 2 rfl; have c3 := k3.at 3 rfl; have c4 := k3.at 4 rfl; have hB3 := hB2.grown hgr3 hbs2 (fun j e => hb.ge e)) | (go_at_call 24; refine (oputtext_yes _ _ (L ++ [UInt8.ofNat (160 : Int).toNat]) ts 4 (hO3.slc byEnc_len) (by omega) (by have := hszh.out; omega) (hbigh.out.mono (by have := hlen2.out; simp; omega))).mono ?_; rintro e w4 ⟨r4, rfl, hO4, hB4⟩))
      go_ret
      exact ⟨_, rfl, by rw [hfin.out]; exact hO4.rebase (fun i hi => Nat.le_trans (Nat.le_trans hBs hB3.size) (hO4.ge hi)), hB3.trans (hB4.mono (Nat.le_trans hBs hB3.size))⟩
    · obtain ⟨rfl, -, -, hkl, hko⟩ := h
      have hkeys := Lib.hid (keysOk_mem hko)
      have hklh := Lib.hid hkl
      clear hko hkl
      obtain ⟨inn, hinn⟩ : ∃ inn, be 4 l.length ++ V.bytesL true ks (l.map VT.v) = inn := ⟨_, rfl⟩
      have hfin := Lib.hid (show L ++ tot = (L ++ [UInt8.ofNat (168 : Int).toNat]) ++ be 4 inn.length ++ inn by rw [hbh.out, ← hinn]; simp [be_len])
      have hlen2 := Lib.hid (show tot.length = 5 + inn.length by rw [hbh.out, ← hinn]; simp [be_len]; omega)
      have hinh := Lib.hid hinn
      have hll := Lib.hid (show l.length ≤ inn.length by
        rw [← hinn, List.length_append]
        have := bytesL_ge true (l.map VT.v) ks
        rw [List.length_map] at this; omega)
      have hwl : IntKind.u64.wrap (l.length : Int) = (l.length : Int) := u64_len (hbigh.out.mono (by have := hll.out; have := hlen2.out; omega))
      clear hinn
      go_enter Tryz.func92, Tryz.ntmps92
      go_wp2_with (first | (at_builtin; refine wpList_app (base := B) rfl (.tmp 8) (.tmp 11) 50 5 rfl elem_by byEnc_len byEnc_one _ L rfl hO2 _ [UInt8.ofNat (168 : Int).toNat] rfl hsk (by have := hbigh.out.le; simp; unfold maxLen; omega) (by have := hbigh.out.le; simp; omega) hbs2 ?_; intro v3 w3 hO3 hgr3 hfr3 hsh3; obtain ⟨va, vn, vc, rfl⟩ := hO3.shape3; have hu3 := Upd.grown (S := fun j => (Value.slice ba bn bc).ownBlock = some j) hgr3 (fun j e => e); have k3 := b2.upd hu3 hne.out; have c0 := k3.at 0 rfl; have c1 := k3.at 1 rfl; have c2 := k3.at 2 rfl; have c3 := k3.at 3 rfl; have c4 := k3.at 4 rfl; have hB3 := hB2.grown hgr3 hbs2 (fun j e => hb.ge e)) | (go_at_call 19; refine (oput_any _ _ [] (l.length : Int) 4 Slc.nil0 (by omega) (by unfold Wd; omega) (by unfold Big; simp)).mono ?_; rintro e w4 ⟨r4, rfl, hO4, hB4⟩; rw [Int.toNat_natCast, List.nil_append] at hO4; obtain ⟨ra, rn, rc, rfl⟩ := hO4.shape3; have k4 := k3.pure hB4; clear c0 c1 c2 c3 c4; have c0 := k4.at 0 rfl; have c4 := k4.at 4 rfl))
      have hlk3 := k3.lt
      go_loopw [5, 58] (fun s5 s58 wr => ∃ (k : Nat) (acc : List UInt8), k ≤ l.length ∧ s58 = .int .i64 k ∧ Own w3.heap.size 5 1 byEnc wr s5 acc ∧ Hid (acc ++ V.bytesL true (ks.drop k) ((l.map VT.v).drop k) = inn) ∧ Below w3.heap.size w3 wr) (fun _ s58 _ => l.length - (intOf s58).toNat)
      case atStart => exact ⟨0, be 4 l.length, by omega, rfl, hO4, Lib.hid hinh.out, hB4⟩
      case round =>
        clear c0 c4 k4 hO4 hB4
        obtain ⟨k, acc, hk, rfl, hO, hacc, hB⟩ := hrel
        obtain ⟨ia, ic, rfl⟩ := own_lenB hO
        have hal := Lib.hid (show acc.length + (V.bytesL true (ks.drop k) ((l.map VT.v).drop k)).length = inn.length by rw [← hacc.out, List.length_append])
        have kr := k3.pure hB
        have c0 := kr.at 0 rfl
        have hBw := hB3.trans (hB.mono (Nat.le_trans hBs hB3.size))
        have hRr := hRh.out.bel hBw (Nat.le_refl _)
        by_cases hlt : k < l.length
        · have hLr : Slc vEnc 5 wr (.slice la l.length lc) l := hRr.lv
          have h1 : (k : Int) < (l.length : Int) := by omega
          obtain ⟨g, off, rfl⟩ := hLr.addrB hlt
          have hRk := hRr.sub l[k] (List.getElem_mem hlt)
          obtain ⟨xk, xn, xs, xka, xkl, xkc, xla, xll, xlc, xks, xl, hx, q0, q1, q2, q3, q4⟩ := v_elem hLr hlt hRk
          have hBe := (Below.refl wr.heap.size wr).alloc (Nat.le_refl _) (.cells #[.int .u8 xk, .int .u64 xn, .string xs, .slice xka xkl xkc, .slice xla xll xlc] 60)
          have be_ := Blk.new wr [.int .u8 xk, .int .u64 xn, .string xs, .slice xka xkl xkc, .slice xla xll xlc] 60
          have hOe := hO.pure hBe
          have hRe := hRk.pure hBe
          have hxm := mayL_mem hmLh.out l[k].v (List.mem_map.2 ⟨_, List.getElem_mem hlt, rfl⟩)
          have hstep := Lib.hid (bytesL_step true ks (l.map VT.v) k (by simpa using hlt) (fun h => by rw [hklh.out]; exact hlt))
          have hi := ihh.out l[k] (List.getElem_mem hlt) w3.heap.size
          have hmapk : (l.map VT.v)[k]'(by simpa using hlt) = l[k].v := by rw [List.getElem_map]
          obtain ⟨xb, hxb⟩ : ∃ xb, l[k].v.bytes = xb := ⟨_, rfl⟩
          have hst2 := Lib.hid (show V.bytesL true (ks.drop k) ((l.map VT.v).drop k) = _ from by rw [hstep.out, hmapk, hxb])
          rw [hxb] at hi
          rw [hx] at hi hRe hxm
          rw [VT.arg_mk] at hi
          have hih := Lib.hid hi
          have hxmh := Lib.hid hxm
          have hwb := Nat.le_trans hBs hB3.size
          clear hi hx hxm hxb hmapk hRk
          have hkk : k < ks.length := by rw [hklh.out]; exact hlt
          have hKr : Slc strEnc 1 wr (.slice ka ks.length kc) ks := hRr.kv
          obtain ⟨kg, koff, rfl⟩ := hKr.addrB hkk
          have kq := (hKr.pure hBe).get k hkk 0 _ rfl
          rw [Nat.mul_one, Nat.add_zero] at kq
          obtain ⟨kx, hkx0⟩ : ∃ kx, ks[k] = kx := ⟨_, rfl⟩
          have hkx := Lib.hid (show 1 ≤ kx.size ∧ kx.size ≤ 255 by rw [← hkx0]; exact hkeys.out _ (List.getElem_mem hkk))
          have hgd := Lib.hid (show ks.getD k ByteArray.empty = kx by rw [← hkx0]; simp [List.getD, List.getElem?_eq_getElem hkk])
          have hlen3 := Lib.hid (show (V.bytesL true (ks.drop k) ((l.map VT.v).drop k)).length = 1 + kx.size + (xb.length + (V.bytesL true (ks.drop (k + 1)) ((l.map VT.v).drop (k + 1))).length) by rw [hst2.out, hgd.out]; simp only [↓reduceIte, List.length_append, be_len, ba_len])
          rw [hkx0] at kq
          have hkk1 : (k : Int) < (ks.length : Int) := by omega
          clear hkx0
          have e0 := be_.at 0 rfl; have e1 := be_.at 1 rfl; have e2 := be_.at 2 rfl; have e3 := be_.at 3 rfl; have e4 := be_.at 4 rfl
          have kre := kr.pure hBe
          have c0e := kre.at 0 rfl; have c3e := kre.at 3 rfl
          go_wp2_with (first | (go_at_call 24; refine (oputtext_yes _ _ acc kx 1 (hOe.slc byEnc_len) (by omega) (by have := hkx.out; omega) (hbigh.out.mono (by have := hal.out; have := hlen2.out; have := hlen3.out; omega))).mono ?_; rintro e w5 ⟨r5, rfl, hO5, hB5⟩; have be5 := be_.pure hB5; clear e0 e1 e2 e3 e4; have e0 := be5.at 0 rfl; have e1 := be5.at 1 rfl; have e2 := be5.at 2 rfl; have e3 := be5.at 3 rfl; have e4 := be5.at 4 rfl; have hRe5 := (hRe.pure hB5).weaken (Q := fun b => b < w3.heap.size) (fun b _ hb => Nat.lt_of_lt_of_le hb hwb); have hO5b := hO5.rebase (b' := w3.heap.size) (fun i hi => Nat.le_trans (Nat.le_trans hB.size hBe.size) (hO5.ge hi)); have hs5 := Nat.le_trans (Nat.le_trans hB.size hBe.size) hB5.size) | (go_at_call 92; refine (hih.out _ _ (acc ++ (be 1 kx.size ++ kx.data.toList)) hRe5 hO5b hs5 hxmh.out (hbigh.out.mono (by have := hal.out; have := hlen2.out; have := hlen3.out; simp [be_len, ba_len]; omega))).mono ?_; rintro e w6 ⟨r6, rfl, hO6, hB6⟩))
          go_roundw
          case rel => exact ⟨k + 1, (acc ++ (be 1 kx.size ++ kx.data.toList)) ++ xb, by omega, by go_num, hO6, Lib.hid (by rw [← hacc.out, hst2.out, hgd.out]; simp), hB.trans (((hBe.mono hB.size).trans (hB5.mono (Nat.le_trans hB.size hBe.size))).trans hB6)⟩
          case measure => simp [intOf]; omega
        · obtain rfl : k = l.length := by omega
          have hfin2 := Lib.hid (show acc = inn by have e : (l.map VT.v).drop l.length = [] := List.drop_eq_nil_of_le (by simp); have := hacc.out; rw [e] at this; unfold V.bytesL at this; rw [List.append_nil] at this; exact this)
          have hwi : IntKind.u64.wrap (acc.length : Int) = (acc.length : Int) := u64_len (hbigh.out.mono (by have := hal.out; have := hlen2.out; omega))
          have hOb := hO3.pure hB
          have hOi := hO
          go_wp2_with (first | (go_at_call 19; refine (oput_any _ _ (L ++ [UInt8.ofNat (168 : Int).toNat]) (acc.length : Int) 4 (hOb.slc byEnc_len) (by omega) (by unfold Wd; omega) (hbigh.out.mono (by have := hlen2.out; simp; omega))).mono ?_; rintro e w7 ⟨r7, rfl, hO7, hB7⟩; have hOi7 := hOi.pure hB7; rw [Int.toNat_natCast] at hO7) | (at_builtin; refine wpList_app (base := wr.heap.size) rfl (.tmp 84) (.tmp 85) 50 5 rfl elem_by byEnc_len byEnc_one r7 _ rfl hO7 _ acc rfl (hOi7.slc byEnc_len) (by have := hbigh.out.le; have := hlen2.out; have := hal.out; simp [be_len]; unfold maxLen; omega) (by have := hbigh.out.le; have := hlen2.out; have := hal.out; simp [be_len]; omega) hB7.size ?_; intro v8 w8 hO8 hgr8 hfr8 hsh8; have hB8 := hB7.grown hgr8 hB7.size (fun j e => hO7.ge e)))
          go_ret
          have hws : B ≤ wr.heap.size := Nat.le_trans hBs hBw.size
          exact ⟨_, rfl, by rw [hfin.out, ← hfin2.out]; exact hO8.rebase (fun i hi => Nat.le_trans hws (hO8.ge hi)), hBw.trans (hB8.mono hws)⟩
    · obtain ⟨rfl, -, -, rfl⟩ := h
      obtain ⟨inn, hinn⟩ : ∃ inn, be 4 l.length ++ V.bytesL false ([] : List ByteArray) (l.map VT.v) = inn := ⟨_, rfl⟩
      have hfin := Lib.hid (show L ++ tot = (L ++ [UInt8.ofNat (169 : Int).toNat]) ++ be 4 inn.length ++ inn by rw [hbh.out, ← hinn]; simp [be_len])
      have hlen2 := Lib.hid (show tot.length = 5 + inn.length by rw [hbh.out, ← hinn]; simp [be_len]; omega)
      have hinh := Lib.hid hinn
      have hll := Lib.hid (show l.length ≤ inn.length by
        rw [← hinn, List.length_append]
        have := bytesL_ge false (l.map VT.v) ([] : List ByteArray)
        rw [List.length_map] at this; omega)
      have hwl : IntKind.u64.wrap (l.length : Int) = (l.length : Int) := u64_len (hbigh.out.mono (by have := hll.out; have := hlen2.out; omega))
      clear hinn
      go_enter Tryz.func92, Tryz.ntmps92
      go_wp2_with (first | (at_builtin; refine wpList_app (base := B) rfl (.tmp 8) (.tmp 11) 50 5 rfl elem_by byEnc_len byEnc_one _ L rfl hO2 _ [UInt8.ofNat (169 : Int).toNat] rfl hsk (by have := hbigh.out.le; simp; unfold maxLen; omega) (by have := hbigh.out.le; simp; omega) hbs2 ?_; intro v3 w3 hO3 hgr3 hfr3 hsh3; obtain ⟨va, vn, vc, rfl⟩ := hO3.shape3; have hu3 := Upd.grown (S := fun j => (Value.slice ba bn bc).ownBlock = some j) hgr3 (fun j e => e); have k3 := b2.upd hu3 hne.out; have c0 := k3.at 0 rfl; have c1 := k3.at 1 rfl; have c2 := k3.at 2 rfl; have c3 := k3.at 3 rfl; have c4 := k3.at 4 rfl; have hB3 := hB2.grown hgr3 hbs2 (fun j e => hb.ge e)) | (go_at_call 19; refine (oput_any _ _ [] (l.length : Int) 4 Slc.nil0 (by omega) (by unfold Wd; omega) (by unfold Big; simp)).mono ?_; rintro e w4 ⟨r4, rfl, hO4, hB4⟩; rw [Int.toNat_natCast, List.nil_append] at hO4; obtain ⟨ra, rn, rc, rfl⟩ := hO4.shape3; have k4 := k3.pure hB4; clear c0 c1 c2 c3 c4; have c0 := k4.at 0 rfl; have c4 := k4.at 4 rfl))
      have hlk3 := k3.lt
      go_loopw [5, 58] (fun s5 s58 wr => ∃ (k : Nat) (acc : List UInt8), k ≤ l.length ∧ s58 = .int .i64 k ∧ Own w3.heap.size 5 1 byEnc wr s5 acc ∧ Hid (acc ++ V.bytesL false (([] : List ByteArray).drop k) ((l.map VT.v).drop k) = inn) ∧ Below w3.heap.size w3 wr) (fun _ s58 _ => l.length - (intOf s58).toNat)
      case atStart => exact ⟨0, be 4 l.length, by omega, rfl, hO4, Lib.hid hinh.out, hB4⟩
      case round =>
        clear c0 c4 k4 hO4 hB4
        obtain ⟨k, acc, hk, rfl, hO, hacc, hB⟩ := hrel
        obtain ⟨ia, ic, rfl⟩ := own_lenB hO
        have hal := Lib.hid (show acc.length + (V.bytesL false (([] : List ByteArray).drop k) ((l.map VT.v).drop k)).length = inn.length by rw [← hacc.out, List.length_append])
        have kr := k3.pure hB
        have c0 := kr.at 0 rfl
        have hBw := hB3.trans (hB.mono (Nat.le_trans hBs hB3.size))
        have hRr := hRh.out.bel hBw (Nat.le_refl _)
        by_cases hlt : k < l.length
        · have hLr : Slc vEnc 5 wr (.slice la l.length lc) l := hRr.lv
          have h1 : (k : Int) < (l.length : Int) := by omega
          obtain ⟨g, off, rfl⟩ := hLr.addrB hlt
          have hRk := hRr.sub l[k] (List.getElem_mem hlt)
          obtain ⟨xk, xn, xs, xka, xkl, xkc, xla, xll, xlc, xks, xl, hx, q0, q1, q2, q3, q4⟩ := v_elem hLr hlt hRk
          have hBe := (Below.refl wr.heap.size wr).alloc (Nat.le_refl _) (.cells #[.int .u8 xk, .int .u64 xn, .string xs, .slice xka xkl xkc, .slice xla xll xlc] 60)
          have be_ := Blk.new wr [.int .u8 xk, .int .u64 xn, .string xs, .slice xka xkl xkc, .slice xla xll xlc] 60
          have hOe := hO.pure hBe
          have hRe := hRk.pure hBe
          have hxm := mayL_mem hmLh.out l[k].v (List.mem_map.2 ⟨_, List.getElem_mem hlt, rfl⟩)
          have hstep := Lib.hid (bytesL_step false ([] : List ByteArray) (l.map VT.v) k (by simpa using hlt) (fun h => absurd h (by simp)))
          have hi := ihh.out l[k] (List.getElem_mem hlt) w3.heap.size
          have hmapk : (l.map VT.v)[k]'(by simpa using hlt) = l[k].v := by rw [List.getElem_map]
          obtain ⟨xb, hxb⟩ : ∃ xb, l[k].v.bytes = xb := ⟨_, rfl⟩
          have hst2 := Lib.hid (show V.bytesL false (([] : List ByteArray).drop k) ((l.map VT.v).drop k) = _ from by rw [hstep.out, hmapk, hxb])
          rw [hxb] at hi
          rw [hx] at hi hRe hxm
          rw [VT.arg_mk] at hi
          have hih := Lib.hid hi
          have hxmh := Lib.hid hxm
          have hwb := Nat.le_trans hBs hB3.size
          clear hi hx hxm hxb hmapk hRk
          have hlen3 := Lib.hid (show (V.bytesL false (([] : List ByteArray).drop k) ((l.map VT.v).drop k)).length = xb.length + (V.bytesL false (([] : List ByteArray).drop (k + 1)) ((l.map VT.v).drop (k + 1))).length by rw [hst2.out]; simp)
          have e0 := be_.at 0 rfl; have e1 := be_.at 1 rfl; have e2 := be_.at 2 rfl; have e3 := be_.at 3 rfl; have e4 := be_.at 4 rfl
          have c0e := (kr.pure hBe).at 0 rfl
          go_wp2_with (first | (go_at_call 92; refine (hih.out _ _ acc (hRe.weaken (fun b _ hb => Nat.lt_of_lt_of_le hb hwb)) hOe (Nat.le_trans hB.size hBe.size) hxmh.out (hbigh.out.mono (by have := hal.out; have := hlen2.out; have := hlen3.out; omega))).mono ?_; rintro e w6 ⟨r6, rfl, hO6, hB6⟩))
          go_roundw
          case rel => exact ⟨k + 1, acc ++ xb, by omega, by go_num, hO6, Lib.hid (by rw [← hacc.out, hst2.out]; simp), hB.trans ((hBe.mono hB.size).trans hB6)⟩
          case measure => simp [intOf]; omega
        · obtain rfl : k = l.length := by omega
          have hfin2 := Lib.hid (show acc = inn by have e : (l.map VT.v).drop l.length = [] := List.drop_eq_nil_of_le (by simp); have := hacc.out; rw [e] at this; unfold V.bytesL at this; rw [List.append_nil] at this; exact this)
          have hwi : IntKind.u64.wrap (acc.length : Int) = (acc.length : Int) := u64_len (hbigh.out.mono (by have := hal.out; have := hlen2.out; omega))
          have hOb := hO3.pure hB
          have hOi := hO
          go_wp2_with (first | (go_at_call 19; refine (oput_any _ _ (L ++ [UInt8.ofNat (169 : Int).toNat]) (acc.length : Int) 4 (hOb.slc byEnc_len) (by omega) (by unfold Wd; omega) (hbigh.out.mono (by have := hlen2.out; simp; omega))).mono ?_; rintro e w7 ⟨r7, rfl, hO7, hB7⟩; have hOi7 := hOi.pure hB7; rw [Int.toNat_natCast] at hO7) | (at_builtin; refine wpList_app (base := wr.heap.size) rfl (.tmp 84) (.tmp 85) 50 5 rfl elem_by byEnc_len byEnc_one r7 _ rfl hO7 _ acc rfl (hOi7.slc byEnc_len) (by have := hbigh.out.le; have := hlen2.out; have := hal.out; simp [be_len]; unfold maxLen; omega) (by have := hbigh.out.le; have := hlen2.out; have := hal.out; simp [be_len]; omega) hB7.size ?_; intro v8 w8 hO8 hgr8 hfr8 hsh8; have hB8 := hB7.grown hgr8 hB7.size (fun j e => hO7.ge e)))
          go_ret
          have hws : B ≤ wr.heap.size := Nat.le_trans hBs hBw.size
          exact ⟨_, rfl, by rw [hfin.out, ← hfin2.out]; exact hO8.rebase (fun i hi => Nat.le_trans hws (hO8.ge hi)), hBw.trans (hB8.mono hws)⟩
end Go.Proofs.YtflglpbjapgciaaGreatDoor

namespace Go.Proofs.YtflglpbjapgciaaGreatDoor
set_option linter.unusedSimpArgs false
set_option linter.unusedVariables false
open Go.RowKit

set_option maxRecDepth 100000 in
set_option maxHeartbeats 1600000 in
theorem check_any (t : VT) (P : Nat → Prop) (w : World) (hR : Rd P w t) (hT : Tb w) :
    Calls Tryz.prog 91 #[t.arg] w fun e w' => e = .returned (.int .i64 t.v.chk) ∧ Below w.heap.size w w' := by
  obtain ⟨tk, tn, ts, ka, kc, la, lc, ks, l, rfl, hK, hL, hmk, hml⟩ := hR.open
  have hB0 := (Below.refl w.heap.size w).alloc (Nat.le_refl _) (.cells #[.int .u8 tk, .int .u64 tn, .string ts, .slice ka ks.length kc, .slice la l.length lc] 60)
  have b0 := Blk.new w [.int .u8 tk, .int .u64 tn, .string ts, .slice ka ks.length kc, .slice la l.length lc] 60
  have hR0 := hR.pure hB0
  have hT0 := Lib.hid (hT.pure hB0)
  have hd0 := fun (u : World) (hBu : Below (w.alloc (.cells #[.int .u8 tk, .int .u64 tn, .string ts, .slice ka ks.length kc, .slice la l.length lc] 60)).heap.size (w.alloc (.cells #[.int .u8 tk, .int .u64 tn, .string ts, .slice ka ks.length kc, .slice la l.length lc] 60)) u) => deep_any0 _ P u 6 (hR0.pure hBu) (by omega)
  have hc0 := fun (u : World) (hBu : Below (w.alloc (.cells #[.int .u8 tk, .int .u64 tn, .string ts, .slice ka ks.length kc, .slice la l.length lc] 60)).heap.size (w.alloc (.cells #[.int .u8 tk, .int .u64 tn, .string ts, .slice ka ks.length kc, .slice la l.length lc] 60)) u) => count_any _ P u 200 (hR0.pure hBu) (by omega) (by omega)
  have hm0 := fun (u : World) (hBu : Below (w.alloc (.cells #[.int .u8 tk, .int .u64 tn, .string ts, .slice ka ks.length kc, .slice la l.length lc] 60)).heap.size (w.alloc (.cells #[.int .u8 tk, .int .u64 tn, .string ts, .slice ka ks.length kc, .slice la l.length lc] 60)) u) => may_any _ P u (hR0.pure hBu) (hT0.out.pure hBu)
  have hch : (VT.mk tk tn ts (.slice ka ks.length kc) (.slice la l.length lc) ks l).v.chk = (if (VT.mk tk tn ts (.slice ka ks.length kc) (.slice la l.length lc) ks l).v.deep 6 then 51 else if (VT.mk tk tn ts (.slice ka ks.length kc) (.slice la l.length lc) ks l).v.cnt 200 < 0 then 3 else if (VT.mk tk tn ts (.slice ka ks.length kc) (.slice la l.length lc) ks l).v.may then 0 else 50) := rfl
  generalize (VT.mk tk tn ts (.slice ka ks.length kc) (.slice la l.length lc) ks l).v.deep 6 = d at hd0 hch
  generalize (VT.mk tk tn ts (.slice ka ks.length kc) (.slice la l.length lc) ks l).v.cnt 200 = c at hc0 hch
  generalize (VT.mk tk tn ts (.slice ka ks.length kc) (.slice la l.length lc) ks l).v.may = m at hm0 hch
  generalize (VT.mk tk tn ts (.slice ka ks.length kc) (.slice la l.length lc) ks l).v.chk = r at hch ⊢
  simp only [VT.arg_mk] at hd0 hc0 hm0 ⊢
  have hdh := Lib.hid hd0
  have hch2 := Lib.hid hc0
  have hmh := Lib.hid hm0
  have hB00 := Below.refl (w.alloc (.cells #[.int .u8 tk, .int .u64 tn, .string ts, .slice ka ks.length kc, .slice la l.length lc] 60)).heap.size (w.alloc (.cells #[.int .u8 tk, .int .u64 tn, .string ts, .slice ka ks.length kc, .slice la l.length lc] 60))
  clear hd0 hc0 hm0 hR0
  cases d
  rotate_left 1
  · skip
    have hres := Lib.hid (show r = 51 by rw [hch]; simp)
    clear hch
    go_enter Tryz.func91, Tryz.ntmps91
    go_wp2_with (first | (go_at_call 109; (refine (hdh.out _ hB00).mono ?_); rintro e w1 ⟨rfl, hB1⟩; have k1 := b0.pure hB1; have c0 := k1.at 0 rfl; have c1 := k1.at 1 rfl; have c2 := k1.at 2 rfl; have c3 := k1.at 3 rfl; have c4 := k1.at 4 rfl; have hB01 := hB0.trans (hB1.mono hB0.size)))
    go_ret
    exact ⟨by rw [hres.out]; rfl, hB01⟩
  by_cases hc : c < 0
  · skip
    have hres := Lib.hid (show r = 3 by rw [hch]; simp [hc])
    clear hch
    go_enter Tryz.func91, Tryz.ntmps91
    go_wp2_with (first | (go_at_call 109; (refine (hdh.out _ hB00).mono ?_); rintro e w1 ⟨rfl, hB1⟩; have k1 := b0.pure hB1; have c0 := k1.at 0 rfl; have c1 := k1.at 1 rfl; have c2 := k1.at 2 rfl; have c3 := k1.at 3 rfl; have c4 := k1.at 4 rfl; have hB01 := hB0.trans (hB1.mono hB0.size)) | (go_at_call 110; (refine (hch2.out _ hB1).mono ?_); rintro e w2 ⟨rfl, hB2⟩; have k2 := k1.pure hB2; clear c0 c1 c2 c3 c4; have c0 := k2.at 0 rfl; have c1 := k2.at 1 rfl; have c2 := k2.at 2 rfl; have c3 := k2.at 3 rfl; have c4 := k2.at 4 rfl; have hB02 := hB1.trans (hB2.mono hB1.size); have hB03 := hB01.trans (hB2.mono hB01.size)))
    go_ret
    exact ⟨by rw [hres.out]; rfl, hB03⟩
  have hc1 : 0 ≤ c := by omega
  cases m
  · skip
    have hres := Lib.hid (show r = 50 by rw [hch]; simp [hc])
    clear hch
    go_enter Tryz.func91, Tryz.ntmps91
    go_wp2_with (first | (go_at_call 109; (refine (hdh.out _ hB00).mono ?_); rintro e w1 ⟨rfl, hB1⟩; have k1 := b0.pure hB1; have c0 := k1.at 0 rfl; have c1 := k1.at 1 rfl; have c2 := k1.at 2 rfl; have c3 := k1.at 3 rfl; have c4 := k1.at 4 rfl; have hB01 := hB0.trans (hB1.mono hB0.size)) | (go_at_call 110; (refine (hch2.out _ hB1).mono ?_); rintro e w2 ⟨rfl, hB2⟩; have k2 := k1.pure hB2; clear c0 c1 c2 c3 c4; have c0 := k2.at 0 rfl; have c1 := k2.at 1 rfl; have c2 := k2.at 2 rfl; have c3 := k2.at 3 rfl; have c4 := k2.at 4 rfl; have hB02 := hB1.trans (hB2.mono hB1.size); have hB03 := hB01.trans (hB2.mono hB01.size)) | (go_at_call 111; (refine (hmh.out _ hB02).mono ?_); rintro e w3 ⟨rfl, hB3⟩; have hB04 := hB03.trans (hB3.mono hB03.size)))
    go_ret
    exact ⟨by rw [hres.out]; rfl, hB04⟩
  · skip
    have hres := Lib.hid (show r = 0 by rw [hch]; simp [hc])
    clear hch
    go_enter Tryz.func91, Tryz.ntmps91
    go_wp2_with (first | (go_at_call 109; (refine (hdh.out _ hB00).mono ?_); rintro e w1 ⟨rfl, hB1⟩; have k1 := b0.pure hB1; have c0 := k1.at 0 rfl; have c1 := k1.at 1 rfl; have c2 := k1.at 2 rfl; have c3 := k1.at 3 rfl; have c4 := k1.at 4 rfl; have hB01 := hB0.trans (hB1.mono hB0.size)) | (go_at_call 110; (refine (hch2.out _ hB1).mono ?_); rintro e w2 ⟨rfl, hB2⟩; have k2 := k1.pure hB2; clear c0 c1 c2 c3 c4; have c0 := k2.at 0 rfl; have c1 := k2.at 1 rfl; have c2 := k2.at 2 rfl; have c3 := k2.at 3 rfl; have c4 := k2.at 4 rfl; have hB02 := hB1.trans (hB2.mono hB1.size); have hB03 := hB01.trans (hB2.mono hB01.size)) | (go_at_call 111; (refine (hmh.out _ hB02).mono ?_); rintro e w3 ⟨rfl, hB3⟩; have hB04 := hB03.trans (hB3.mono hB03.size)))
    go_ret
    exact ⟨by rw [hres.out]; rfl, hB04⟩

set_option maxRecDepth 100000 in
set_option maxHeartbeats 1600000 in
theorem dcheck_any (t : VT) (P : Nat → Prop) (w : World) (hR : Rd P w t) :
    Calls Tryz.prog 93 #[t.arg] w fun e w' => e = .returned (.int .i64 t.v.chk) ∧ Below w.heap.size w w' := by
  obtain ⟨tk, tn, ts, ka, kc, la, lc, ks, l, rfl, hK, hL, hmk, hml⟩ := hR.open
  have hB0 := (Below.refl w.heap.size w).alloc (Nat.le_refl _) (.cells #[.int .u8 tk, .int .u64 tn, .string ts, .slice ka ks.length kc, .slice la l.length lc] 60)
  have b0 := Blk.new w [.int .u8 tk, .int .u64 tn, .string ts, .slice ka ks.length kc, .slice la l.length lc] 60
  have hR0 := hR.pure hB0
  have hd0 := fun (u : World) (hBu : Below (w.alloc (.cells #[.int .u8 tk, .int .u64 tn, .string ts, .slice ka ks.length kc, .slice la l.length lc] 60)).heap.size (w.alloc (.cells #[.int .u8 tk, .int .u64 tn, .string ts, .slice ka ks.length kc, .slice la l.length lc] 60)) u) => dtoodeep_any _ P u 6 (hR0.pure hBu) (by omega)
  have hc0 := fun (u : World) (hBu : Below (w.alloc (.cells #[.int .u8 tk, .int .u64 tn, .string ts, .slice ka ks.length kc, .slice la l.length lc] 60)).heap.size (w.alloc (.cells #[.int .u8 tk, .int .u64 tn, .string ts, .slice ka ks.length kc, .slice la l.length lc] 60)) u) => dleft_any _ P u 200 (hR0.pure hBu) (by omega) (by omega)
  have hm0 := fun (u : World) (hBu : Below (w.alloc (.cells #[.int .u8 tk, .int .u64 tn, .string ts, .slice ka ks.length kc, .slice la l.length lc] 60)).heap.size (w.alloc (.cells #[.int .u8 tk, .int .u64 tn, .string ts, .slice ka ks.length kc, .slice la l.length lc] 60)) u) => dmay_any _ P u (hR0.pure hBu)
  have hch : (VT.mk tk tn ts (.slice ka ks.length kc) (.slice la l.length lc) ks l).v.chk = (if (VT.mk tk tn ts (.slice ka ks.length kc) (.slice la l.length lc) ks l).v.deep 6 then 51 else if (VT.mk tk tn ts (.slice ka ks.length kc) (.slice la l.length lc) ks l).v.cnt 200 < 0 then 3 else if (VT.mk tk tn ts (.slice ka ks.length kc) (.slice la l.length lc) ks l).v.may then 0 else 50) := rfl
  generalize (VT.mk tk tn ts (.slice ka ks.length kc) (.slice la l.length lc) ks l).v.deep 6 = d at hd0 hch
  generalize (VT.mk tk tn ts (.slice ka ks.length kc) (.slice la l.length lc) ks l).v.cnt 200 = c at hc0 hch
  generalize (VT.mk tk tn ts (.slice ka ks.length kc) (.slice la l.length lc) ks l).v.may = m at hm0 hch
  generalize (VT.mk tk tn ts (.slice ka ks.length kc) (.slice la l.length lc) ks l).v.chk = r at hch ⊢
  simp only [VT.arg_mk] at hd0 hc0 hm0 ⊢
  have hdh := Lib.hid hd0
  have hch2 := Lib.hid hc0
  have hmh := Lib.hid hm0
  have hB00 := Below.refl (w.alloc (.cells #[.int .u8 tk, .int .u64 tn, .string ts, .slice ka ks.length kc, .slice la l.length lc] 60)).heap.size (w.alloc (.cells #[.int .u8 tk, .int .u64 tn, .string ts, .slice ka ks.length kc, .slice la l.length lc] 60))
  clear hd0 hc0 hm0 hR0
  cases d
  rotate_left 1
  · skip
    have hres := Lib.hid (show r = 51 by rw [hch]; simp)
    clear hch
    go_enter Tryz.func93, Tryz.ntmps93
    go_wp2_with (first | (go_at_call 105; (refine (hdh.out _ hB00).mono ?_); rintro e w1 ⟨rfl, hB1⟩; have k1 := b0.pure hB1; have c0 := k1.at 0 rfl; have c1 := k1.at 1 rfl; have c2 := k1.at 2 rfl; have c3 := k1.at 3 rfl; have c4 := k1.at 4 rfl; have hB01 := hB0.trans (hB1.mono hB0.size)))
    go_ret
    exact ⟨by rw [hres.out]; rfl, hB01⟩
  by_cases hc : c < 0
  · skip
    have hres := Lib.hid (show r = 3 by rw [hch]; simp [hc])
    clear hch
    go_enter Tryz.func93, Tryz.ntmps93
    go_wp2_with (first | (go_at_call 105; (refine (hdh.out _ hB00).mono ?_); rintro e w1 ⟨rfl, hB1⟩; have k1 := b0.pure hB1; have c0 := k1.at 0 rfl; have c1 := k1.at 1 rfl; have c2 := k1.at 2 rfl; have c3 := k1.at 3 rfl; have c4 := k1.at 4 rfl; have hB01 := hB0.trans (hB1.mono hB0.size)) | (go_at_call 104; (refine (hch2.out _ hB1).mono ?_); rintro e w2 ⟨rfl, hB2⟩; have k2 := k1.pure hB2; clear c0 c1 c2 c3 c4; have c0 := k2.at 0 rfl; have c1 := k2.at 1 rfl; have c2 := k2.at 2 rfl; have c3 := k2.at 3 rfl; have c4 := k2.at 4 rfl; have hB02 := hB1.trans (hB2.mono hB1.size); have hB03 := hB01.trans (hB2.mono hB01.size)))
    go_ret
    exact ⟨by rw [hres.out]; rfl, hB03⟩
  have hc1 : 0 ≤ c := by omega
  cases m
  · skip
    have hres := Lib.hid (show r = 50 by rw [hch]; simp [hc])
    clear hch
    go_enter Tryz.func93, Tryz.ntmps93
    go_wp2_with (first | (go_at_call 105; (refine (hdh.out _ hB00).mono ?_); rintro e w1 ⟨rfl, hB1⟩; have k1 := b0.pure hB1; have c0 := k1.at 0 rfl; have c1 := k1.at 1 rfl; have c2 := k1.at 2 rfl; have c3 := k1.at 3 rfl; have c4 := k1.at 4 rfl; have hB01 := hB0.trans (hB1.mono hB0.size)) | (go_at_call 104; (refine (hch2.out _ hB1).mono ?_); rintro e w2 ⟨rfl, hB2⟩; have k2 := k1.pure hB2; clear c0 c1 c2 c3 c4; have c0 := k2.at 0 rfl; have c1 := k2.at 1 rfl; have c2 := k2.at 2 rfl; have c3 := k2.at 3 rfl; have c4 := k2.at 4 rfl; have hB02 := hB1.trans (hB2.mono hB1.size); have hB03 := hB01.trans (hB2.mono hB01.size)) | (go_at_call 112; (refine (hmh.out _ hB02).mono ?_); rintro e w3 ⟨rfl, hB3⟩; have hB04 := hB03.trans (hB3.mono hB03.size)))
    go_ret
    exact ⟨by rw [hres.out]; rfl, hB04⟩
  · skip
    have hres := Lib.hid (show r = 0 by rw [hch]; simp [hc])
    clear hch
    go_enter Tryz.func93, Tryz.ntmps93
    go_wp2_with (first | (go_at_call 105; (refine (hdh.out _ hB00).mono ?_); rintro e w1 ⟨rfl, hB1⟩; have k1 := b0.pure hB1; have c0 := k1.at 0 rfl; have c1 := k1.at 1 rfl; have c2 := k1.at 2 rfl; have c3 := k1.at 3 rfl; have c4 := k1.at 4 rfl; have hB01 := hB0.trans (hB1.mono hB0.size)) | (go_at_call 104; (refine (hch2.out _ hB1).mono ?_); rintro e w2 ⟨rfl, hB2⟩; have k2 := k1.pure hB2; clear c0 c1 c2 c3 c4; have c0 := k2.at 0 rfl; have c1 := k2.at 1 rfl; have c2 := k2.at 2 rfl; have c3 := k2.at 3 rfl; have c4 := k2.at 4 rfl; have hB02 := hB1.trans (hB2.mono hB1.size); have hB03 := hB01.trans (hB2.mono hB01.size)) | (go_at_call 112; (refine (hmh.out _ hB02).mono ?_); rintro e w3 ⟨rfl, hB3⟩; have hB04 := hB03.trans (hB3.mono hB03.size)))
    go_ret
    exact ⟨by rw [hres.out]; rfl, hB04⟩

theorem chk_big {t : VT} (h : t.v.chk = 0) : t.v.bytes.length ≤ 1000000 := by
  obtain ⟨h1, h2, h3⟩ := chk_zero h
  have := bytes_len t.v h3 200 h2
  omega
set_option maxRecDepth 100000 in
set_option maxHeartbeats 1600000 in
theorem vput_any (t : VT) (P : Nat → Prop) (w : World) (hR : Rd P w t) (hT : Tb w) :
    Calls Tryz.prog 60 #[t.arg] w fun e w' => ∃ r, e = .returned (.tuple #[r, .int .i64 t.v.chk]) ∧ Own w.heap.size 5 1 byEnc w' r (if t.v.chk = 0 then t.v.bytes else []) ∧ Below w.heap.size w w' := by
  have hRt := hR
  obtain ⟨tk, tn, ts, ka, kc, la, lc, ks, l, rfl, hK, hL, hmk, hml⟩ := hR.open
  have hB0 := (Below.refl w.heap.size w).alloc (Nat.le_refl _) (.cells #[.int .u8 tk, .int .u64 tn, .string ts, .slice ka ks.length kc, .slice la l.length lc] 60)
  have b0 := Blk.new w [.int .u8 tk, .int .u64 tn, .string ts, .slice ka ks.length kc, .slice la l.length lc] 60
  have hc0 := check_any _ P _ (hR.pure hB0) (hT.pure hB0)
  have hchk := @chk_zero (VT.mk tk tn ts (.slice ka ks.length kc) (.slice la l.length lc) ks l).v
  have hcb := @chk_big (VT.mk tk tn ts (.slice ka ks.length kc) (.slice la l.length lc) ks l)
  have hp0 := fun (u : World) (hBu : Below w.heap.size w u) (hm : (VT.mk tk tn ts (.slice ka ks.length kc) (.slice la l.length lc) ks l).v.may = true) (hb : Big _) => put_any (VT.mk tk tn ts (.slice ka ks.length kc) (.slice la l.length lc) ks l) w.heap.size u (.slice none 0 0) [] (hRt.here.pure hBu) Own.nil hBu.size hm hb
  simp only [VT.arg_mk] at hc0 hp0 ⊢
  obtain ⟨bs, hbs⟩ : ∃ bs, (VT.mk tk tn ts (.slice ka ks.length kc) (.slice la l.length lc) ks l).v.bytes = bs := ⟨_, rfl⟩
  obtain ⟨r, hr⟩ : ∃ r, (VT.mk tk tn ts (.slice ka ks.length kc) (.slice la l.length lc) ks l).v.chk = r := ⟨_, rfl⟩
  rw [hr] at hc0 hchk hcb ⊢
  rw [hbs] at hp0 hcb ⊢
  have hch := Lib.hid hc0
  have hph := Lib.hid hp0
  have hck := Lib.hid hchk
  have hcbh := Lib.hid hcb
  clear hc0 hp0 hchk hcb hr hbs
  by_cases hz : r = 0
  rotate_left 1
  · have hz1 : (r != 0) = true := bne_iff_ne.2 hz
    rw [if_neg hz]
    clear hz
    go_enter Tryz.func60, Tryz.ntmps60
    go_wp2_with (first | (go_at_call 91; (with_reducible refine hch.out.mono ?_); rintro e w1 ⟨rfl, hB1⟩; have hB2 := hB0.trans (hB1.mono hB0.size)))
    go_ret2
    exact ⟨_, rfl, Own.nil, hB2⟩
  · subst hz
    rw [if_pos rfl]
    have hmay := Lib.hid (hck.out rfl).2.2
    have hbg := Lib.hid (show Big (([] : List UInt8).length + bs.length + 100) by have := hcbh.out rfl; unfold Big; simp; omega)
    go_enter Tryz.func60, Tryz.ntmps60
    go_wp2_with (first | (go_at_call 91; (with_reducible refine hch.out.mono ?_); rintro e w1 ⟨rfl, hB1⟩; have hB2 := hB0.trans (hB1.mono hB0.size); have k1 := b0.pure hB1; have c0 := k1.at 0 rfl; have c1 := k1.at 1 rfl; have c2 := k1.at 2 rfl; have c3 := k1.at 3 rfl; have c4 := k1.at 4 rfl) | (go_at_call 92; (with_reducible refine (hph.out _ hB2 hmay.out hbg.out).mono ?_); rintro e w3 ⟨r3, rfl, hO3, hB3⟩; rw [List.nil_append] at hO3))
    go_ret2
    exact ⟨_, rfl, hO3, hB2.trans hB3⟩

end Go.Proofs.YtflglpbjapgciaaGreatDoor

namespace Go.Proofs.YtflglpbjapgciaaGreatDoor
set_option linter.unusedSimpArgs false
set_option linter.unusedVariables false
open Go.RowKit

set_option maxRecDepth 100000 in
set_option maxHeartbeats 6400000 in
theorem dbytes_any (t : VT) : ∀ (P : Nat → Prop) (w : World), Rd P w t → t.v.may = true → Big (t.v.bytes.length + 100) → Calls Tryz.prog 71 #[t.arg] w fun e w' => ∃ r, e = .returned r ∧ Own w.heap.size 5 1 byEnc w' r t.v.bytes ∧ Below w.heap.size w w' := by
  induction t using VT.ind with
  | h t ih =>
    intro P w hR hmay hbig
    have hRt := hR
    obtain ⟨tk, tn, ts, ka, kc, la, lc, ks, l, rfl, hK, hL, hmk, hml⟩ := hR.open
    rw [VT.arg_mk]
    have ih' : ∀ x ∈ l, ∀ (P : Nat → Prop) (w : World), Rd P w x → x.v.may = true → Big (x.v.bytes.length + 100) → Calls Tryz.prog 71 #[x.arg] w fun e w' => ∃ r, e = .returned r ∧ Own w.heap.size 5 1 byEnc w' r x.v.bytes ∧ Below w.heap.size w w' := ih
    have ihh := Lib.hid ih'
    have hbn0 : 0 ≤ tn := hR.n0
    have hbn1 := Lib.hid (show tn < 18446744073709551616 from hR.n1)
    have hRh := Lib.hid hRt
    rw [may_vt, Bool.and_eq_true] at hmay
    obtain ⟨hhead, hmL⟩ := hmay
    have hbytes := @bytes_vt tk tn ts (.slice ka ks.length kc) (.slice la l.length lc) ks l
    obtain ⟨tot, htot⟩ : ∃ tot, (VT.mk tk tn ts (.slice ka ks.length kc) (.slice la l.length lc) ks l).v.bytes = tot := ⟨_, rfl⟩
    rw [htot] at hbytes hbig ⊢
    have hbh := Lib.hid hbytes
    have hbigh := Lib.hid hbig
    have hmLh := Lib.hid hmL
    clear ih ih' hR hRt hbytes htot hbig hmL
    have hB0 := (Below.refl w.heap.size w).alloc (Nat.le_refl _) (.cells #[.int .u8 tk, .int .u64 tn, .string ts, .slice ka ks.length kc, .slice la l.length lc] 60)
    have b0 := Blk.new w [.int .u8 tk, .int .u64 tn, .string ts, .slice ka ks.length kc, .slice la l.length lc] 60
    have hB2 := hB0.alloc hB0.size (.cells #[.int .u8 tk] 5)
    have b2 := b0.alloc (.cells #[.int .u8 tk] 5)
    have hk1 : tk = 240 ∨ tk = 8 ∨ tk = 2 ∨ tk = 49 ∨ tk = 50 ∨ tk = 149 ∨ tk = 160 ∨ tk = 168 ∨ tk = 169 := by
      rcases headOk_cases hhead with h | h | h | h | h | h | h | h <;> omega
    have hkb : tk = ((UInt8.ofNat tk.toNat).toNat : Int) := by rcases hk1 with rfl | rfl | rfl | rfl | rfl | rfl | rfl | rfl | rfl <;> rfl
    have hO2 := Own.byte1 (w.alloc (.cells #[.int .u8 tk, .int .u64 tn, .string ts, .slice ka ks.length kc, .slice la l.length lc] 60)) (UInt8.ofNat tk.toNat) tk hkb hB0.size
    rw [show (w.alloc (.cells #[.int .u8 tk, .int .u64 tn, .string ts, .slice ka ks.length kc, .slice la l.length lc] 60)).heap.size = w.heap.size + 1 by simp] at hO2
    have c0 := b2.at 0 rfl; have c1 := b2.at 1 rfl; have c2 := b2.at 2 rfl; have c3 := b2.at 3 rfl; have c4 := b2.at 4 rfl
    have hsz2 : ((w.alloc (.cells #[.int .u8 tk, .int .u64 tn, .string ts, .slice ka ks.length kc, .slice la l.length lc] 60)).alloc (.cells #[.int .u8 tk] 5)).heap.size = w.heap.size + 2 := by simp
    have hsz2h := Lib.hid hsz2
    clear hkb hk1 hsz2
    have hhd := headOk_cases hhead
    clear hhead
    rcases hhd with h | h | h | h | h | h | h | h
    · obtain ⟨rfl, -⟩ := h
      have hfin := Lib.hid (show tot = [UInt8.ofNat (240 : Int).toNat] by rw [hbh.out]; simp)
      go_enter Tryz.func71, Tryz.ntmps71
      go_wp2
      go_ret
      exact ⟨_, rfl, by rw [hfin.out]; exact hO2, hB2⟩
    · obtain ⟨rfl, hn, -⟩ := h
      have hn255 : tn ≤ 255 := by omega
      have hfin := Lib.hid (show tot = [UInt8.ofNat (8 : Int).toNat] ++ be 1 tn.toNat by rw [hbh.out]; simp)
      have hlen2 := Lib.hid (show tot.length = 2 by rw [hfin.out]; simp [be_len])
      have hnb : tn = ((UInt8.ofNat tn.toNat).toNat : Int) := by rw [UInt8.toNat_ofNat']; omega
      have hw8 : IntKind.u8.wrap tn = tn := by
        have e : IntKind.u8.wrap tn = tn % 256 := rfl
        rw [e]; omega
      have hn256 : tn % 256 = tn := by omega
      have hbe := Lib.hid (show be 1 tn.toNat = [UInt8.ofNat tn.toNat] by unfold be; rw [Nat.mod_eq_of_lt (by omega)]; rfl)
      have hB3 := hB2.alloc hB2.size (.cells #[.int .u8 tn] 5)
      have hO3 := hO2.alloc (.cells #[.int .u8 tn] 5)
      have hs3 := (Own.byte1 ((w.alloc (.cells #[.int .u8 8, .int .u64 tn, .string ts, .slice ka ks.length kc, .slice la l.length lc] 60)).alloc (.cells #[.int .u8 8] 5)) (UInt8.ofNat tn.toNat) tn hnb (Nat.le_refl _)).slc byEnc_len
      rw [hsz2h.out] at hs3
      clear hn hnb hw8 hn256
      have hw8 : IntKind.u8.wrap tn = tn := by
        have e : IntKind.u8.wrap tn = tn % 256 := rfl
        rw [e]; omega
      go_enter Tryz.func71, Tryz.ntmps71
      go_wp2_with (first | (at_builtin; refine wpList_app (base := w.heap.size) rfl (.tmp 14) (.tmp 18) 50 5 rfl elem_by byEnc_len byEnc_one _ _ rfl hO3 _ _ rfl hs3 (by have := hbigh.out.le; have := hlen2.out; simp only [List.length_append, List.length_cons, List.length_nil, be_len, ba_len]; unfold maxLen; omega) (by have := hbigh.out.le; have := hlen2.out; simp only [List.length_append, List.length_cons, List.length_nil, be_len, ba_len]; omega) hB3.size ?_; intro v4 w4 hO4 hgr4 hfr4 hsh4; have hB4 := hB3.grown hgr4 hB3.size (fun j e => hO3.ge e)))
      go_ret
      exact ⟨_, rfl, by rw [hfin.out]; exact (by rw [hbe.out]; exact hO4), hB4⟩
    · obtain ⟨rfl, hn, -⟩ := h
      have hn255 : tn ≤ 255 := by omega
      have hfin := Lib.hid (show tot = [UInt8.ofNat (2 : Int).toNat] ++ be 1 tn.toNat by rw [hbh.out]; simp)
      have hlen2 := Lib.hid (show tot.length = 2 by rw [hfin.out]; simp [be_len])
      have hnb : tn = ((UInt8.ofNat tn.toNat).toNat : Int) := by rw [UInt8.toNat_ofNat']; omega
      have hw8 : IntKind.u8.wrap tn = tn := by
        have e : IntKind.u8.wrap tn = tn % 256 := rfl
        rw [e]; omega
      have hn256 : tn % 256 = tn := by omega
      have hbe := Lib.hid (show be 1 tn.toNat = [UInt8.ofNat tn.toNat] by unfold be; rw [Nat.mod_eq_of_lt (by omega)]; rfl)
      have hB3 := hB2.alloc hB2.size (.cells #[.int .u8 tn] 5)
      have hO3 := hO2.alloc (.cells #[.int .u8 tn] 5)
      have hs3 := (Own.byte1 ((w.alloc (.cells #[.int .u8 2, .int .u64 tn, .string ts, .slice ka ks.length kc, .slice la l.length lc] 60)).alloc (.cells #[.int .u8 2] 5)) (UInt8.ofNat tn.toNat) tn hnb (Nat.le_refl _)).slc byEnc_len
      rw [hsz2h.out] at hs3
      clear hn hnb hw8 hn256
      have hw8 : IntKind.u8.wrap tn = tn := by
        have e : IntKind.u8.wrap tn = tn % 256 := rfl
        rw [e]; omega
      go_enter Tryz.func71, Tryz.ntmps71
      go_wp2_with (first | (at_builtin; refine wpList_app (base := w.heap.size) rfl (.tmp 14) (.tmp 18) 50 5 rfl elem_by byEnc_len byEnc_one _ _ rfl hO3 _ _ rfl hs3 (by have := hbigh.out.le; have := hlen2.out; simp only [List.length_append, List.length_cons, List.length_nil, be_len, ba_len]; unfold maxLen; omega) (by have := hbigh.out.le; have := hlen2.out; simp only [List.length_append, List.length_cons, List.length_nil, be_len, ba_len]; omega) hB3.size ?_; intro v4 w4 hO4 hgr4 hfr4 hsh4; have hB4 := hB3.grown hgr4 hB3.size (fun j e => hO3.ge e)))
      go_ret
      exact ⟨_, rfl, by rw [hfin.out]; exact (by rw [hbe.out]; exact hO4), hB4⟩
    · obtain ⟨hk, -⟩ := h
      rcases hk with rfl | rfl
      · have hfin := Lib.hid (show tot = [UInt8.ofNat (49 : Int).toNat] ++ be 8 tn.toNat by rw [hbh.out]; simp)
        have hlen2 := Lib.hid (show tot.length = 9 by rw [hfin.out]; simp [be_len])
        go_enter Tryz.func71, Tryz.ntmps71
        go_wp2_with (first | (go_at_call 66; refine (dnumber_any _ tn 8 hbn0 hbn1 (by unfold Wd; omega)).mono ?_; rintro e w3 ⟨r3, rfl, hN3, hB3⟩; have hO3 := hO2.pure hB3; have hB03 := hB2.trans (hB3.mono hB2.size)) | (at_builtin; refine wpList_app (base := w.heap.size) rfl (.tmp 23) (.tmp 26) 50 5 rfl elem_by byEnc_len byEnc_one _ _ rfl hO3 _ _ rfl (hN3.slc byEnc_len) (by have := hbigh.out.le; have := hlen2.out; simp only [List.length_append, List.length_cons, List.length_nil, be_len, ba_len]; unfold maxLen; omega) (by have := hbigh.out.le; have := hlen2.out; simp only [List.length_append, List.length_cons, List.length_nil, be_len, ba_len]; omega) hB03.size ?_; intro v4 w4 hO4 hgr4 hfr4 hsh4; have hB4 := hB03.grown hgr4 hB03.size (fun j e => hO3.ge e)))
        go_ret
        exact ⟨_, rfl, by rw [hfin.out]; exact hO4, hB4⟩
      · have hfin := Lib.hid (show tot = [UInt8.ofNat (50 : Int).toNat] ++ be 8 tn.toNat by rw [hbh.out]; simp)
        have hlen2 := Lib.hid (show tot.length = 9 by rw [hfin.out]; simp [be_len])
        go_enter Tryz.func71, Tryz.ntmps71
        go_wp2_with (first | (go_at_call 66; refine (dnumber_any _ tn 8 hbn0 hbn1 (by unfold Wd; omega)).mono ?_; rintro e w3 ⟨r3, rfl, hN3, hB3⟩; have hO3 := hO2.pure hB3; have hB03 := hB2.trans (hB3.mono hB2.size)) | (at_builtin; refine wpList_app (base := w.heap.size) rfl (.tmp 23) (.tmp 26) 50 5 rfl elem_by byEnc_len byEnc_one _ _ rfl hO3 _ _ rfl (hN3.slc byEnc_len) (by have := hbigh.out.le; have := hlen2.out; simp only [List.length_append, List.length_cons, List.length_nil, be_len, ba_len]; unfold maxLen; omega) (by have := hbigh.out.le; have := hlen2.out; simp only [List.length_append, List.length_cons, List.length_nil, be_len, ba_len]; omega) hB03.size ?_; intro v4 w4 hO4 hgr4 hfr4 hsh4; have hB4 := hB03.grown hgr4 hB03.size (fun j e => hO3.ge e)))
        go_ret
        exact ⟨_, rfl, by rw [hfin.out]; exact hO4, hB4⟩
    · obtain ⟨rfl, -, hsz, -⟩ := h
      have hfin := Lib.hid (show tot = ([UInt8.ofNat (149 : Int).toNat] ++ be 2 ts.size) ++ ts.data.toList by rw [hbh.out]; simp)
      have hlen2 := Lib.hid (show tot.length = 1 + 2 + ts.size by rw [hfin.out]; simp [be_len, ba_len]; omega)
      have hwl : IntKind.u64.wrap (ts.size : Int) = (ts.size : Int) := wrap_u64 _ (by omega) (by omega)
      have hsl : (ts.size : Int) ≤ 4096 := by omega
      have hsn := Lib.hid (show (ts.size : Int) < 18446744073709551616 by omega)
      clear hsz
      go_enter Tryz.func71, Tryz.ntmps71
      go_wp2_with (first | (go_at_call 66; refine (dnumber_any _ (ts.size : Int) 2 (by omega) hsn (by unfold Wd; omega)).mono ?_; rintro e w3 ⟨r3, rfl, hN3, hB3⟩; rw [Int.toNat_natCast] at hN3; have hO3 := hO2.pure hB3; have hB03 := hB2.trans (hB3.mono hB2.size)) | (at_builtin; refine wpList_app (base := w.heap.size) rfl (.tmp 30) (.tmp 35) 50 5 rfl elem_by byEnc_len byEnc_one _ _ rfl hO3 _ _ rfl (hN3.slc byEnc_len) (by have := hbigh.out.le; have := hlen2.out; simp only [List.length_append, List.length_cons, List.length_nil, be_len, ba_len]; unfold maxLen; omega) (by have := hbigh.out.le; have := hlen2.out; simp only [List.length_append, List.length_cons, List.length_nil, be_len, ba_len]; omega) hB03.size ?_; intro v4 w4 hO4 hgr4 hfr4 hsh4; have hB4 := hB03.grown hgr4 hB03.size (fun j e => hO3.ge e); have k4 := (b2.pure hB3).upd (Upd.grown (S := fun j => (Value.slice (some ⟨w.heap.size + 1, 0, none⟩) 1 1).ownBlock = some j) hgr4 (fun j e => e)) (fun e => by have e2 : w.heap.size + 1 = w.heap.size := Option.some.inj e; omega); clear c0 c1 c2 c3 c4; have c2 := k4.at 2 rfl) | (at_builtin; refine wpList_appS (base := w.heap.size) rfl (.tmp 37) (.tmp 39) rfl v4 _ rfl hO4 ts rfl (by have := hbigh.out.le; have := hlen2.out; simp only [List.length_append, List.length_cons, List.length_nil, be_len, ba_len]; omega) hB4.size ?_; intro v5 w5 hO5 hgr5; have hB5 := hB4.grown hgr5 hB4.size (fun j e => hO4.ge e)))
      go_ret
      exact ⟨_, rfl, by rw [hfin.out]; exact hO5, hB5⟩
    · obtain ⟨rfl, -, hsz, -⟩ := h
      have hfin := Lib.hid (show tot = ([UInt8.ofNat (160 : Int).toNat] ++ be 4 ts.size) ++ ts.data.toList by rw [hbh.out]; simp)
      have hlen2 := Lib.hid (show tot.length = 1 + 4 + ts.size by rw [hfin.out]; simp [be_len, ba_len]; omega)
      have hwl : IntKind.u64.wrap (ts.size : Int) = (ts.size : Int) := wrap_u64 _ (by omega) (by omega)
      have hsl : (ts.size : Int) ≤ 4096 := by omega
      have hsn := Lib.hid (show (ts.size : Int) < 18446744073709551616 by omega)
      clear hsz
      go_enter Tryz.func71, Tryz.ntmps71
      go_wp2_with (first | (go_at_call 66; refine (dnumber_any _ (ts.size : Int) 4 (by omega) hsn (by unfold Wd; omega)).mono ?_; rintro e w3 ⟨r3, rfl, hN3, hB3⟩; rw [Int.toNat_natCast] at hN3; have hO3 := hO2.pure hB3; have hB03 := hB2.trans (hB3.mono hB2.size)) | (at_builtin; refine wpList_app (base := w.heap.size) rfl (.tmp 43) (.tmp 48) 50 5 rfl elem_by byEnc_len byEnc_one _ _ rfl hO3 _ _ rfl (hN3.slc byEnc_len) (by have := hbigh.out.le; have := hlen2.out; simp only [List.length_append, List.length_cons, List.length_nil, be_len, ba_len]; unfold maxLen; omega) (by have := hbigh.out.le; have := hlen2.out; simp only [List.length_append, List.length_cons, List.length_nil, be_len, ba_len]; omega) hB03.size ?_; intro v4 w4 hO4 hgr4 hfr4 hsh4; have hB4 := hB03.grown hgr4 hB03.size (fun j e => hO3.ge e); have k4 := (b2.pure hB3).upd (Upd.grown (S := fun j => (Value.slice (some ⟨w.heap.size + 1, 0, none⟩) 1 1).ownBlock = some j) hgr4 (fun j e => e)) (fun e => by have e2 : w.heap.size + 1 = w.heap.size := Option.some.inj e; omega); clear c0 c1 c2 c3 c4; have c2 := k4.at 2 rfl) | (at_builtin; refine wpList_appS (base := w.heap.size) rfl (.tmp 50) (.tmp 52) rfl v4 _ rfl hO4 ts rfl (by have := hbigh.out.le; have := hlen2.out; simp only [List.length_append, List.length_cons, List.length_nil, be_len, ba_len]; omega) hB4.size ?_; intro v5 w5 hO5 hgr5; have hB5 := hB4.grown hgr5 hB4.size (fun j e => hO4.ge e)))
      go_ret
      exact ⟨_, rfl, by rw [hfin.out]; exact hO5, hB5⟩
    · obtain ⟨rfl, -, -, hkl, hko⟩ := h
      have hkeys := Lib.hid (keysOk_mem hko)
      have hklh := Lib.hid hkl
      clear hko hkl
      obtain ⟨inn, hinn⟩ : ∃ inn, be 4 l.length ++ V.bytesL true ks (l.map VT.v) = inn := ⟨_, rfl⟩
      have hfin := Lib.hid (show tot = ([UInt8.ofNat (168 : Int).toNat] ++ be 4 inn.length) ++ inn by rw [hbh.out, ← hinn]; simp [be_len])
      have hlen2 := Lib.hid (show tot.length = 5 + inn.length by rw [hfin.out]; simp [be_len]; omega)
      have hinh := Lib.hid hinn
      have hll := Lib.hid (show l.length ≤ inn.length by
        rw [← hinn, List.length_append]
        have := bytesL_ge true (l.map VT.v) ks
        rw [List.length_map] at this; omega)
      have hwl : IntKind.u64.wrap (l.length : Int) = (l.length : Int) := u64_len (hbigh.out.mono (by have := hll.out; have := hlen2.out; omega))
      have hln := Lib.hid (show (l.length : Int) < 18446744073709551616 by have := hbigh.out.le; have := hll.out; have := hlen2.out; omega)
      clear hinn
      go_enter Tryz.func71, Tryz.ntmps71
      go_wp2_with (first | (go_at_call 66; refine (dnumber_any _ (l.length : Int) 4 (by omega) hln (by unfold Wd; omega)).mono ?_; rintro e w3 ⟨r3, rfl, hN3, hB3⟩; rw [Int.toNat_natCast] at hN3; obtain ⟨ra, rn, rc, rfl⟩ := hN3.shape3))
      have hN3b := hN3.rebase (b' := w.heap.size + 2) (fun i hi => by rw [← hsz2h.out]; exact hN3.ge hi)
      have hB23 : Below (w.heap.size + 2) ((w.alloc (.cells #[.int .u8 168, .int .u64 tn, .string ts, .slice ka ks.length kc, .slice la l.length lc] 60)).alloc (.cells #[.int .u8 168] 5)) w3 := by rw [← hsz2h.out]; exact hB3
      obtain ⟨WW, hWW⟩ : ∃ WW, WW = ((w.alloc (.cells #[.int .u8 168, .int .u64 tn, .string ts, .slice ka ks.length kc, .slice la l.length lc] 60)).alloc (.cells #[.int .u8 168] 5)) := ⟨_, rfl⟩
      rw [← hWW] at hB23 hO2 b2 hsz2h hB2
      have hwz : w.heap.size + 2 ≤ WW.heap.size := by rw [hsz2h.out]; exact Nat.le_refl _
      clear c0 c1 c2 c3 c4 hB3 hN3 hWW
      go_loopw [4, 5] (fun s4 s5 wr => ∃ (k : Nat) (acc : List UInt8), k ≤ l.length ∧ s5 = .int .i64 k ∧ Own (w.heap.size + 2) 5 1 byEnc wr s4 acc ∧ Hid (acc ++ V.bytesL true (ks.drop k) ((l.map VT.v).drop k) = inn) ∧ Below (w.heap.size + 2) WW wr) (fun _ s5 _ => l.length - (intOf s5).toNat)
      case atStart => exact ⟨0, be 4 l.length, by omega, rfl, hN3b, Lib.hid hinh.out, hB23⟩
      case round =>
        clear hN3b hB23
        obtain ⟨k, acc, hk, rfl, hO, hacc, hB⟩ := hrel
        obtain ⟨ia, ic, rfl⟩ := own_lenB hO
        have hal := Lib.hid (show acc.length + (V.bytesL true (ks.drop k) ((l.map VT.v).drop k)).length = inn.length by rw [← hacc.out, List.length_append])
        have kr := b2.below hB (by omega)
        have c0 := kr.at 0 rfl; have c3 := kr.at 3 rfl; have c4 := kr.at 4 rfl
        have hBw : Below w.heap.size w wr := hB2.trans (hB.mono (by omega))
        have hRr := hRh.out.pure hBw
        by_cases hlt : k < l.length
        · have hLr : Slc vEnc 5 wr (.slice la l.length lc) l := hRr.lv
          have h1 : (k : Int) < (l.length : Int) := by omega
          obtain ⟨g, off, rfl⟩ := hLr.addrB hlt
          have hRk := hRr.sub l[k] (List.getElem_mem hlt)
          obtain ⟨xk, xn, xs, xka, xkl, xkc, xla, xll, xlc, xks, xl, hx, q0, q1, q2, q3, q4⟩ := v_elem hLr hlt hRk
          have hxm := mayL_mem hmLh.out l[k].v (List.mem_map.2 ⟨_, List.getElem_mem hlt, rfl⟩)
          have hstep := Lib.hid (bytesL_step true ks (l.map VT.v) k (by simpa using hlt) (fun h => by rw [hklh.out]; exact hlt))
          have hi := ihh.out l[k] (List.getElem_mem hlt) P
          have hmapk : (l.map VT.v)[k]'(by simpa using hlt) = l[k].v := by rw [List.getElem_map]
          obtain ⟨xb, hxb⟩ : ∃ xb, l[k].v.bytes = xb := ⟨_, rfl⟩
          have hst2 := Lib.hid (show V.bytesL true (ks.drop k) ((l.map VT.v).drop k) = _ from by rw [hstep.out, hmapk, hxb])
          rw [hxb] at hi
          have hRk2 := hRk
          rw [hx] at hi hRk2 hxm
          rw [VT.arg_mk] at hi
          have hih := Lib.hid hi
          have hxmh := Lib.hid hxm
          have hLr2 := hLr
          have hxq := Lib.hid hx
          clear hi hx hxm hxb hmapk hRk
          have hkk : k < ks.length := by rw [hklh.out]; exact hlt
          have hKr : Slc strEnc 1 wr (.slice ka ks.length kc) ks := hRr.kv
          obtain ⟨kg, koff, rfl⟩ := hKr.addrB hkk
          have kq := hKr.get k hkk 0 _ rfl
          rw [Nat.mul_one, Nat.add_zero] at kq
          obtain ⟨kx, hkx0⟩ : ∃ kx, ks[k] = kx := ⟨_, rfl⟩
          have hkx := Lib.hid (show 1 ≤ kx.size ∧ kx.size ≤ 255 by rw [← hkx0]; exact hkeys.out _ (List.getElem_mem hkk))
          have hgd := Lib.hid (show ks.getD k ByteArray.empty = kx by rw [← hkx0]; simp [List.getD, List.getElem?_eq_getElem hkk])
          have hlen3 := Lib.hid (show (V.bytesL true (ks.drop k) ((l.map VT.v).drop k)).length = 1 + kx.size + (xb.length + (V.bytesL true (ks.drop (k + 1)) ((l.map VT.v).drop (k + 1))).length) by rw [hst2.out, hgd.out]; simp only [↓reduceIte, List.length_append, be_len, ba_len])
          rw [hkx0] at kq
          have hkk1 : (k : Int) < (ks.length : Int) := by omega
          have hkw : IntKind.u8.wrap (kx.size : Int) = (kx.size : Int) := by
            have e : IntKind.u8.wrap (kx.size : Int) = (kx.size : Int) % 256 := rfl
            have := hkx.out; rw [e]; omega
          have hk8 : (kx.size : Int) ≤ 255 := by have := hkx.out; omega
          have hkb1 : (kx.size : Int) = ((UInt8.ofNat kx.size).toNat : Int) := by rw [UInt8.toNat_ofNat']; have := hkx.out; omega
          have hbe1 := Lib.hid (show be 1 kx.size = [UInt8.ofNat kx.size] by unfold be; rw [Nat.mod_eq_of_lt (by have := hkx.out; omega)]; rfl)
          have hBx := hB.alloc (Nat.le_trans hwz hB.size) (.cells #[.int .u8 (kx.size : Int)] 5)
          have hOx := hO.alloc (.cells #[.int .u8 (kx.size : Int)] 5)
          have hsx := (Own.byte1 wr (UInt8.ofNat kx.size) (kx.size : Int) hkb1 (Nat.le_refl _)).slc byEnc_len
          have hzx := Nat.le_trans (Nat.le_trans hwz hB.size) ((Below.refl wr.heap.size wr).alloc (Nat.le_refl _) (.cells #[.int .u8 (kx.size : Int)] 5)).size
          have hRAll := Lib.hid (fun (u : World) (hu : Below (w.heap.size + 2) WW u) => (hRh.out.pure (hB2.trans (hu.mono (by omega)))))
          have hcellk := Lib.hid (fun (u : World) (hu : Below (w.heap.size + 2) WW u) => show u.cell? ⟨kg, koff + k, none⟩ = some (.string kx) by
            have h9 : Slc strEnc 1 u (.slice (some ⟨kg, koff, none⟩) ks.length kc) ks := (hRAll.out u hu).kv
            have h8 := h9.get k hkk 0 _ rfl
            rw [Nat.mul_one, Nat.add_zero, hkx0] at h8; exact h8)
          have hRk3 := Lib.hid (fun (u : World) (hu : Below (w.heap.size + 2) WW u) => show Rd P u (.mk xk xn xs (.slice xka xkl xkc) (.slice xla xll xlc) xks xl) by rw [← hxq.out]; exact (hRAll.out u hu).sub l[k] (List.getElem_mem hlt))
          have hcx := Lib.hid (fun (u : World) (hu : Below (w.heap.size + 2) WW u) => show u.cell? ⟨g, off + k * 5, none⟩ = some (.int .u8 xk) ∧ u.cell? ⟨g, off + k * 5 + 1, none⟩ = some (.int .u64 xn) ∧ u.cell? ⟨g, off + k * 5 + 2, none⟩ = some (.string xs) ∧ u.cell? ⟨g, off + k * 5 + 3, none⟩ = some (.slice xka xkl xkc) ∧ u.cell? ⟨g, off + k * 5 + 4, none⟩ = some (.slice xla xll xlc) by
            have h9 : Slc vEnc 5 u (.slice (some ⟨g, off, none⟩) l.length lc) l := (hRAll.out u hu).lv
            have h8 := v_cells h9 hlt
            rw [hxq.out] at h8; exact h8)
          have hb2h := Lib.hid b2
          clear hkx0 hkb1
          go_wp2_with (first | (at_builtin; refine wpList_app (base := w.heap.size + 2) rfl (.tmp 72) (.tmp 80) 50 5 rfl elem_by byEnc_len byEnc_one _ acc rfl hOx _ [UInt8.ofNat kx.size] rfl hsx (by have := hbigh.out.le; have := hal.out; have := hlen2.out; have := hlen3.out; simp only [List.length_append, List.length_cons, List.length_nil, be_len, ba_len]; unfold maxLen; omega) (by have := hbigh.out.le; have := hal.out; have := hlen2.out; have := hlen3.out; simp only [List.length_append, List.length_cons, List.length_nil, be_len, ba_len]; omega) hzx ?_; intro v5 w5 hO5 hgr5 hfr5 hsh5; have hB5 := hBx.grown hgr5 hzx (fun j e => hOx.ge e); have hz5 := Nat.le_trans hwz hB5.size; have k5 := hb2h.out.below hB5 (by omega); have c05 := k5.at 0 rfl; have c35 := k5.at 3 rfl; have c45 := k5.at 4 rfl; have kq5 := hcellk.out w5 hB5) | (at_builtin; refine wpList_appS (base := w.heap.size + 2) rfl (.tmp 82) (.tmp 87) rfl v5 _ rfl hO5 kx rfl (by have := hbigh.out.le; have := hal.out; have := hlen2.out; have := hlen3.out; simp only [List.length_append, List.length_cons, List.length_nil, be_len, ba_len]; omega) hz5 ?_; intro v6 w6 hO6 hgr6; have hB6 := hB5.grown hgr6 hz5 (fun j e => hO5.ge e); have hz6 := Nat.le_trans hwz hB6.size; have k6 := hb2h.out.below hB6 (by omega); have c46 := k6.at 4 rfl; obtain ⟨x0, x1, x2, x3, x4⟩ := hcx.out w6 hB6; have hRk6 := hRk3.out w6 hB6) | (go_at_call 71; refine (hih.out _ hRk6 hxmh.out (hbigh.out.mono (by have := hal.out; have := hlen2.out; have := hlen3.out; omega))).mono ?_; rintro e w7 ⟨r7, rfl, hO7, hB7⟩; have hOa := hO6.pure hB7; have hBa := hB6.trans (hB7.mono hz6); have hza := Nat.le_trans hz6 hB7.size) | (at_builtin; refine wpList_app (base := w.heap.size + 2) rfl (.tmp 89) (.tmp 95) 50 5 rfl elem_by byEnc_len byEnc_one v6 _ rfl hOa _ xb rfl (hO7.slc byEnc_len) (by have := hbigh.out.le; have := hal.out; have := hlen2.out; have := hlen3.out; simp only [List.length_append, List.length_cons, List.length_nil, be_len, ba_len]; unfold maxLen; omega) (by have := hbigh.out.le; have := hal.out; have := hlen2.out; have := hlen3.out; simp only [List.length_append, List.length_cons, List.length_nil, be_len, ba_len]; omega) hza ?_; intro v8 w8 hO8 hgr8 hfr8 hsh8; have hB8 := hBa.grown hgr8 hza (fun j e => hOa.ge e)))
          go_roundw
          case rel => exact ⟨k + 1, _, by omega, by go_num, hO8, Lib.hid (by rw [← hacc.out, hst2.out, hgd.out, hbe1.out]; simp), hB8⟩
          case measure => simp [intOf]; omega
        · obtain rfl : k = l.length := by omega
          have hfin2 := Lib.hid (show acc = inn by have e : (l.map VT.v).drop l.length = [] := List.drop_eq_nil_of_le (by simp); have := hacc.out; rw [e] at this; unfold V.bytesL at this; rw [List.append_nil] at this; exact this)
          have hwi : IntKind.u64.wrap (acc.length : Int) = (acc.length : Int) := u64_len (hbigh.out.mono (by have := hal.out; have := hlen2.out; omega))
          have hai := Lib.hid (show (acc.length : Int) < 18446744073709551616 by have := hbigh.out.le; have := hal.out; have := hlen2.out; omega)
          have hO2r : Own w.heap.size 5 1 byEnc wr (.slice (some ⟨w.heap.size + 1, 0, none⟩) 1 1) [UInt8.ofNat (168 : Int).toNat] := hO2.keep (fun j hj _ => hB.block j (by have e2 : w.heap.size + 1 = j := Option.some.inj hj; omega))
          go_wp2_with (first | (go_at_call 66; refine (dnumber_any _ (acc.length : Int) 4 (by omega) hai (by unfold Wd; omega)).mono ?_; rintro e w7 ⟨r7, rfl, hN7, hB7⟩; rw [Int.toNat_natCast] at hN7; have hO7 := hO2r.pure hB7; have hOi7 := hO.pure hB7; have hBw7 := hBw.trans (hB7.mono hBw.size)) | (at_builtin; refine wpList_app (base := w.heap.size) rfl (.tmp 97) (.tmp 101) 50 5 rfl elem_by byEnc_len byEnc_one _ _ rfl hO7 _ (be 4 acc.length) rfl (hN7.slc byEnc_len) (by have := hbigh.out.le; have := hlen2.out; simp only [List.length_append, List.length_cons, List.length_nil, be_len, ba_len]; unfold maxLen; omega) (by have := hbigh.out.le; have := hlen2.out; simp only [List.length_append, List.length_cons, List.length_nil, be_len, ba_len]; omega) hBw7.size ?_; intro v8 w8 hO8 hgr8 hfr8 hsh8; have hB8 := hBw7.grown hgr8 hBw7.size (fun j e => hO7.ge e); have hOi8 := hOi7.upd (Upd.grown (S := fun j => (Value.slice (some ⟨w.heap.size + 1, 0, none⟩) 1 1).ownBlock = some j) hgr8 (fun j e => e)) (fun j hj e => by have h9 := hOi7.ge hj; have e2 : w.heap.size + 1 = j := Option.some.inj e; omega)) | (at_builtin; refine wpList_app (base := w.heap.size) rfl (.tmp 103) (.tmp 104) 50 5 rfl elem_by byEnc_len byEnc_one v8 _ rfl hO8 _ acc rfl (hOi8.slc byEnc_len) (by have := hbigh.out.le; have := hlen2.out; have := hal.out; simp only [List.length_append, List.length_cons, List.length_nil, be_len, ba_len]; unfold maxLen; omega) (by have := hbigh.out.le; have := hlen2.out; have := hal.out; simp only [List.length_append, List.length_cons, List.length_nil, be_len, ba_len]; omega) hB8.size ?_; intro v9 w9 hO9 hgr9 hfr9 hsh9; have hB9 := hB8.grown hgr9 hB8.size (fun j e => hO8.ge e)))
          go_ret
          exact ⟨_, rfl, by rw [hfin.out, ← hfin2.out]; exact hO9, hB9⟩
    · obtain ⟨rfl, -, -, -⟩ := h
      obtain ⟨inn, hinn⟩ : ∃ inn, be 4 l.length ++ V.bytesL false ks (l.map VT.v) = inn := ⟨_, rfl⟩
      have hfin := Lib.hid (show tot = ([UInt8.ofNat (169 : Int).toNat] ++ be 4 inn.length) ++ inn by rw [hbh.out, ← hinn]; simp [be_len])
      have hlen2 := Lib.hid (show tot.length = 5 + inn.length by rw [hfin.out]; simp [be_len]; omega)
      have hinh := Lib.hid hinn
      have hll := Lib.hid (show l.length ≤ inn.length by
        rw [← hinn, List.length_append]
        have := bytesL_ge false (l.map VT.v) ks
        rw [List.length_map] at this; omega)
      have hwl : IntKind.u64.wrap (l.length : Int) = (l.length : Int) := u64_len (hbigh.out.mono (by have := hll.out; have := hlen2.out; omega))
      have hln := Lib.hid (show (l.length : Int) < 18446744073709551616 by have := hbigh.out.le; have := hll.out; have := hlen2.out; omega)
      clear hinn
      go_enter Tryz.func71, Tryz.ntmps71
      go_wp2_with (first | (go_at_call 66; refine (dnumber_any _ (l.length : Int) 4 (by omega) hln (by unfold Wd; omega)).mono ?_; rintro e w3 ⟨r3, rfl, hN3, hB3⟩; rw [Int.toNat_natCast] at hN3; obtain ⟨ra, rn, rc, rfl⟩ := hN3.shape3))
      have hN3b := hN3.rebase (b' := w.heap.size + 2) (fun i hi => by rw [← hsz2h.out]; exact hN3.ge hi)
      have hB23 : Below (w.heap.size + 2) ((w.alloc (.cells #[.int .u8 169, .int .u64 tn, .string ts, .slice ka ks.length kc, .slice la l.length lc] 60)).alloc (.cells #[.int .u8 169] 5)) w3 := by rw [← hsz2h.out]; exact hB3
      obtain ⟨WW, hWW⟩ : ∃ WW, WW = ((w.alloc (.cells #[.int .u8 169, .int .u64 tn, .string ts, .slice ka ks.length kc, .slice la l.length lc] 60)).alloc (.cells #[.int .u8 169] 5)) := ⟨_, rfl⟩
      rw [← hWW] at hB23 hO2 b2 hsz2h hB2
      have hwz : w.heap.size + 2 ≤ WW.heap.size := by rw [hsz2h.out]; exact Nat.le_refl _
      clear c0 c1 c2 c3 c4 hB3 hN3 hWW
      go_loopw [4, 5] (fun s4 s5 wr => ∃ (k : Nat) (acc : List UInt8), k ≤ l.length ∧ s5 = .int .i64 k ∧ Own (w.heap.size + 2) 5 1 byEnc wr s4 acc ∧ Hid (acc ++ V.bytesL false (ks.drop k) ((l.map VT.v).drop k) = inn) ∧ Below (w.heap.size + 2) WW wr) (fun _ s5 _ => l.length - (intOf s5).toNat)
      case atStart => exact ⟨0, be 4 l.length, by omega, rfl, hN3b, Lib.hid hinh.out, hB23⟩
      case round =>
        clear hN3b hB23
        obtain ⟨k, acc, hk, rfl, hO, hacc, hB⟩ := hrel
        obtain ⟨ia, ic, rfl⟩ := own_lenB hO
        have hal := Lib.hid (show acc.length + (V.bytesL false (ks.drop k) ((l.map VT.v).drop k)).length = inn.length by rw [← hacc.out, List.length_append])
        have kr := b2.below hB (by omega)
        have c0 := kr.at 0 rfl; have c3 := kr.at 3 rfl; have c4 := kr.at 4 rfl
        have hBw : Below w.heap.size w wr := hB2.trans (hB.mono (by omega))
        have hRr := hRh.out.pure hBw
        by_cases hlt : k < l.length
        · have hLr : Slc vEnc 5 wr (.slice la l.length lc) l := hRr.lv
          have h1 : (k : Int) < (l.length : Int) := by omega
          obtain ⟨g, off, rfl⟩ := hLr.addrB hlt
          have hRk := hRr.sub l[k] (List.getElem_mem hlt)
          obtain ⟨xk, xn, xs, xka, xkl, xkc, xla, xll, xlc, xks, xl, hx, q0, q1, q2, q3, q4⟩ := v_elem hLr hlt hRk
          have hxm := mayL_mem hmLh.out l[k].v (List.mem_map.2 ⟨_, List.getElem_mem hlt, rfl⟩)
          have hstep := Lib.hid (bytesL_step false ks (l.map VT.v) k (by simpa using hlt) (fun h => absurd h (by simp)))
          have hi := ihh.out l[k] (List.getElem_mem hlt) P
          have hmapk : (l.map VT.v)[k]'(by simpa using hlt) = l[k].v := by rw [List.getElem_map]
          obtain ⟨xb, hxb⟩ : ∃ xb, l[k].v.bytes = xb := ⟨_, rfl⟩
          have hst2 := Lib.hid (show V.bytesL false (ks.drop k) ((l.map VT.v).drop k) = _ from by rw [hstep.out, hmapk, hxb])
          rw [hxb] at hi
          have hRk2 := hRk
          rw [hx] at hi hRk2 hxm
          rw [VT.arg_mk] at hi
          have hih := Lib.hid hi
          have hxmh := Lib.hid hxm
          have hLr2 := hLr
          have hxq := Lib.hid hx
          clear hi hx hxm hxb hmapk hRk
          have hlen3 := Lib.hid (show (V.bytesL false (ks.drop k) ((l.map VT.v).drop k)).length = xb.length + (V.bytesL false (ks.drop (k + 1)) ((l.map VT.v).drop (k + 1))).length by rw [hst2.out]; simp)
          clear hmk
          have hbx := Lib.hid (show Big (xb.length + 100) from (hbigh.out.mono (by have := hal.out; have := hlen2.out; have := hlen3.out; omega)))
          have hzr := Nat.le_trans hwz hB.size
          have hla := Lib.hid (show acc.length + xb.length ≤ maxLen by have := hbigh.out.le; have := hal.out; have := hlen2.out; have := hlen3.out; unfold maxLen; omega)
          have hlb := Lib.hid (show (acc.length + xb.length) * 1 ≤ 140737488355328 by have := hbigh.out.le; have := hal.out; have := hlen2.out; have := hlen3.out; omega)
          go_wp2_with (first | (go_at_call 71; refine (hih.out _ hRk2 hxmh.out hbx.out).mono ?_; rintro e w6 ⟨r6, rfl, hO6, hB6⟩; have hOa := hO.pure hB6; have hBa := hB.trans (hB6.mono hzr); have hza := Nat.le_trans hzr hB6.size) | (at_builtin; refine wpList_app (base := w.heap.size + 2) rfl (.tmp 89) (.tmp 95) 50 5 rfl elem_by byEnc_len byEnc_one _ acc rfl hOa _ xb rfl (hO6.slc byEnc_len) hla.out hlb.out hza ?_; intro v7 w7 hO7 hgr7 hfr7 hsh7; have hB7 := hBa.grown hgr7 hza (fun j e => hOa.ge e)))
          go_roundw
          case rel => exact ⟨k + 1, acc ++ xb, by omega, by go_num, hO7, Lib.hid (by rw [← hacc.out, hst2.out]; simp), hB7⟩
          case measure => simp [intOf]; omega
        · obtain rfl : k = l.length := by omega
          have hfin2 := Lib.hid (show acc = inn by have e : (l.map VT.v).drop l.length = [] := List.drop_eq_nil_of_le (by simp); have := hacc.out; rw [e] at this; unfold V.bytesL at this; rw [List.append_nil] at this; exact this)
          have hwi : IntKind.u64.wrap (acc.length : Int) = (acc.length : Int) := u64_len (hbigh.out.mono (by have := hal.out; have := hlen2.out; omega))
          have hai := Lib.hid (show (acc.length : Int) < 18446744073709551616 by have := hbigh.out.le; have := hal.out; have := hlen2.out; omega)
          have hO2r : Own w.heap.size 5 1 byEnc wr (.slice (some ⟨w.heap.size + 1, 0, none⟩) 1 1) [UInt8.ofNat (169 : Int).toNat] := hO2.keep (fun j hj _ => hB.block j (by have e2 : w.heap.size + 1 = j := Option.some.inj hj; omega))
          go_wp2_with (first | (go_at_call 66; refine (dnumber_any _ (acc.length : Int) 4 (by omega) hai (by unfold Wd; omega)).mono ?_; rintro e w7 ⟨r7, rfl, hN7, hB7⟩; rw [Int.toNat_natCast] at hN7; have hO7 := hO2r.pure hB7; have hOi7 := hO.pure hB7; have hBw7 := hBw.trans (hB7.mono hBw.size)) | (at_builtin; refine wpList_app (base := w.heap.size) rfl (.tmp 97) (.tmp 101) 50 5 rfl elem_by byEnc_len byEnc_one _ _ rfl hO7 _ (be 4 acc.length) rfl (hN7.slc byEnc_len) (by have := hbigh.out.le; have := hlen2.out; simp only [List.length_append, List.length_cons, List.length_nil, be_len, ba_len]; unfold maxLen; omega) (by have := hbigh.out.le; have := hlen2.out; simp only [List.length_append, List.length_cons, List.length_nil, be_len, ba_len]; omega) hBw7.size ?_; intro v8 w8 hO8 hgr8 hfr8 hsh8; have hB8 := hBw7.grown hgr8 hBw7.size (fun j e => hO7.ge e); have hOi8 := hOi7.upd (Upd.grown (S := fun j => (Value.slice (some ⟨w.heap.size + 1, 0, none⟩) 1 1).ownBlock = some j) hgr8 (fun j e => e)) (fun j hj e => by have h9 := hOi7.ge hj; have e2 : w.heap.size + 1 = j := Option.some.inj e; omega)) | (at_builtin; refine wpList_app (base := w.heap.size) rfl (.tmp 103) (.tmp 104) 50 5 rfl elem_by byEnc_len byEnc_one v8 _ rfl hO8 _ acc rfl (hOi8.slc byEnc_len) (by have := hbigh.out.le; have := hlen2.out; have := hal.out; simp only [List.length_append, List.length_cons, List.length_nil, be_len, ba_len]; unfold maxLen; omega) (by have := hbigh.out.le; have := hlen2.out; have := hal.out; simp only [List.length_append, List.length_cons, List.length_nil, be_len, ba_len]; omega) hB8.size ?_; intro v9 w9 hO9 hgr9 hfr9 hsh9; have hB9 := hB8.grown hgr9 hB8.size (fun j e => hO8.ge e)))
          go_ret
          exact ⟨_, rfl, by rw [hfin.out, ← hfin2.out]; exact hO9, hB9⟩
end Go.Proofs.YtflglpbjapgciaaGreatDoor

namespace Go.Proofs.YtflglpbjapgciaaGreatDoor
set_option linter.unusedSimpArgs false
set_option linter.unusedVariables false
open Go.RowKit
/-- Nowhere in it are there more than a million keys. -/
inductive V.Kfit : V → Prop
  | mk {k n : Int} {s : ByteArray} {ks : List ByteArray} {l : List V} : ks.length ≤ 1000000 → (∀ t ∈ l, V.Kfit t) → V.Kfit (.mk k n s ks l)
theorem kfit_vt {tk tn : Int} {ts : ByteArray} {kv lv : Value} {ks : List ByteArray} {l : List VT} (h : ks.length ≤ 1000000) (hl : ∀ j, (hj : j < l.length) → V.Kfit l[j].v) : V.Kfit (VT.mk tk tn ts kv lv ks l).v := by
  rw [VT.v_eq]
  refine .mk h (fun t ht => ?_)
  obtain ⟨x, hx, rfl⟩ := List.mem_map.1 ht
  obtain ⟨j, hj, rfl⟩ := List.getElem_of_mem hx
  exact hl j hj
set_option maxRecDepth 100000 in
set_option maxHeartbeats 3200000 in
theorem dsmallN_any (t : VT) : ∀ (P : Nat → Prop) (w : World) (n : Int), Rd P w t → 0 ≤ n → n ≤ 1000000 → Calls Tryz.prog 106 #[t.arg, .int .i64 n] w fun e w' => (∃ m : Int, e = .returned (.int .i64 m) ∧ -1000000 ≤ m ∧ m ≤ n ∧ (0 ≤ m → V.Kfit t.v)) ∧ Below w.heap.size w w' := by
  induction t using VT.ind with
  | h t ih =>
    intro P w n hR hn0 hn1
    have hRh := Lib.hid hR
    obtain ⟨tk, tn, ts, ka, kc, la, lc, ks, l, rfl, hK, hL, hmk, hml⟩ := hR.open
    rw [VT.arg_mk]
    have hsub : ∀ x ∈ l, Rd P w x := hR.sub
    have ih' : ∀ x ∈ l, ∀ (P : Nat → Prop) (w : World) (n : Int), Rd P w x → 0 ≤ n → n ≤ 1000000 → Calls Tryz.prog 106 #[x.arg, .int .i64 n] w fun e w' => (∃ m : Int, e = .returned (.int .i64 m) ∧ -1000000 ≤ m ∧ m ≤ n ∧ (0 ≤ m → V.Kfit x.v)) ∧ Below w.heap.size w w' := ih
    clear ih hR hmk
    have ihh := Lib.hid ih'
    have hsubh := Lib.hid hsub
    clear ih' hsub
    have hB0 := (Below.refl w.heap.size w).alloc (Nat.le_refl _) (.cells #[.int .u8 tk, .int .u64 tn, .string ts, .slice ka ks.length kc, .slice la l.length lc] 60)
    have b0 := Blk.new w [.int .u8 tk, .int .u64 tn, .string ts, .slice ka ks.length kc, .slice la l.length lc] 60
    have c2 := b0.at 2 rfl; have c3 := b0.at 3 rfl; have c4 := b0.at 4 rfl
    by_cases hbad : n < (ts.size : Int)
    · have h1 : decide (n < (ts.size : Int)) = true := decide_eq_true hbad
      go_enter Tryz.func106, Tryz.ntmps106
      go_wp2
      go_ret
      exact ⟨⟨-1, rfl, by omega, by omega, fun h => absurd h (by omega)⟩, hB0⟩
    by_cases hbad2 : n < (ks.length : Int)
    · have h1 : decide (n < (ts.size : Int)) = false := decide_eq_false hbad
      have h2 : decide (n < (ks.length : Int)) = true := decide_eq_true hbad2
      go_enter Tryz.func106, Tryz.ntmps106
      go_wp2
      go_ret
      exact ⟨⟨-1, rfl, by omega, by omega, fun h => absurd h (by omega)⟩, hB0⟩
    have h1 : decide (n < (ts.size : Int)) = false := decide_eq_false hbad
    have h2 : decide (n < (ks.length : Int)) = false := decide_eq_false hbad2
    have hksz := Lib.hid (show ks.length ≤ 1000000 by omega)
    by_cases hM : n - ts.size - ks.length < -1000000000
    · omega
    go_enter Tryz.func106, Tryz.ntmps106
    go_wp2
    clear h1 h2
    go_loopw [1, 5] (fun s1 s5 wr => ∃ (k : Nat) (m : Int), k ≤ ks.length ∧ s5 = .int .i64 k ∧ s1 = .int .i64 m ∧ -1000000 ≤ m ∧ m ≤ n ∧ Blk wr w.heap.size [.int .u8 tk, .int .u64 tn, .string ts, .slice ka ks.length kc, .slice la l.length lc] ∧ Below w.heap.size w wr) (fun _ s5 _ => ks.length - (intOf s5).toNat)
    case atStart => exact ⟨0, _, by omega, rfl, rfl, by omega, by omega, b0, hB0⟩
    case round =>
      clear c2 c3 c4 b0 hB0
      obtain ⟨k, m, hk, rfl, rfl, hm0, hm1, b, hB⟩ := hrel
      have c3 := b.at 3 rfl
      by_cases hlt : k < ks.length
      · have h1 : (k : Int) < (ks.length : Int) := by omega
        have hKr := hK.pure hB
        obtain ⟨kg, koff, rfl⟩ := hKr.addrB hlt
        have kq := hKr.get k hlt 0 _ rfl
        rw [Nat.mul_one, Nat.add_zero] at kq
        obtain ⟨kx, hkx⟩ : ∃ kx, ks[k] = kx := ⟨_, rfl⟩
        rw [hkx] at kq
        clear hkx
        by_cases hb : m < (kx.size : Int)
        · have h2 : decide (m < (kx.size : Int)) = true := decide_eq_true hb
          go_wp2
          go_ret
          exact ⟨⟨-1, rfl, by omega, by omega, fun h => absurd h (by omega)⟩, hB⟩
        · have h2 : decide (m < (kx.size : Int)) = false := decide_eq_false hb
          go_wp2
          go_roundw
          case rel => exact ⟨k + 1, m - kx.size, by omega, by go_num, by go_num, by omega, by omega, b, hB⟩
          case measure => simp [intOf]; omega
      · obtain rfl : k = ks.length := by omega
        go_wp2
        go_loopw [1, 6] (fun s1 s5 wr => ∃ (k : Nat) (m : Int), k ≤ l.length ∧ s5 = .int .i64 k ∧ s1 = .int .i64 m ∧ -1000000 ≤ m ∧ m ≤ n ∧ Blk wr w.heap.size [.int .u8 tk, .int .u64 tn, .string ts, .slice ka ks.length kc, .slice la l.length lc] ∧ Below w.heap.size w wr ∧ Hid (0 ≤ m → ∀ j, (hj : j < l.length) → j < k → V.Kfit l[j].v)) (fun _ s5 _ => l.length - (intOf s5).toNat)
        case atStart => exact ⟨0, _, by omega, rfl, rfl, hm0, hm1, b, hB, Lib.hid (fun _ j _ h => absurd h (by omega))⟩
        case round =>
          clear c3 b hB hm0 hm1
          obtain ⟨k2, m2, hk2, rfl, rfl, hm0, hm1, b, hB, hfit⟩ := hrel
          have c4 := b.at 4 rfl
          by_cases hlt2 : k2 < l.length
          · have h1 : (k2 : Int) < (l.length : Int) := by omega
            by_cases hneg : m2 < 0
            · have h2 : decide (0 ≤ m2) = false := decide_eq_false (by omega)
              go_wp2
              go_ret
              exact ⟨⟨m2, rfl, hm0, hm1, fun h => absurd h (by omega)⟩, hB⟩
            · have hm : 0 ≤ m2 := by omega
              have h2 : decide (0 ≤ m2) = true := decide_eq_true hm
              have hLk := hL.pure hB
              obtain ⟨g, off, rfl⟩ := hLk.addrB hlt2
              have hRk := (hsubh.out l[k2] (List.getElem_mem hlt2)).pure hB
              obtain ⟨xk, xn, xs, xka, xkl, xkc, xla, xll, xlc, xks, xl, hx, q0, q1, q2, q3, q4⟩ := v_elem hLk hlt2 hRk
              have hi := ihh.out l[k2] (List.getElem_mem hlt2) P _ m2 hRk hm (by omega)
              rw [hx, VT.arg_mk] at hi
              have hih := Lib.hid hi
              have hxh := Lib.hid hx
              clear hi hx hneg
              go_wp2_with (go_at_call 106; (with_reducible refine hih.out.mono ?_); rintro e w1 ⟨⟨y, rfl, hy0, hy1, hyf⟩, hB1⟩; have hyfh := Lib.hid hyf; clear hyf; have hB2 := hB.trans (hB1.mono hB.size))
              go_roundw
              case rel => exact ⟨k2 + 1, y, by omega, by go_num, rfl, hy0, by omega, b.pure hB1, hB2, Lib.hid (fun h0 j hj h1 => by
                rcases Nat.lt_or_ge j k2 with h' | h'
                · exact hfit.out hm j hj h'
                · obtain rfl : j = k2 := by omega
                  rw [hxh.out]; exact hyfh.out h0)⟩
              case measure => simp [intOf]; omega
          · obtain rfl : k2 = l.length := by omega
            go_wp2
            go_ret
            exact ⟨⟨m2, rfl, hm0, hm1, fun h => kfit_vt hksz.out (fun j hj => hfit.out h j hj hj)⟩, hB⟩
set_option maxRecDepth 100000 in
set_option maxHeartbeats 1600000 in
theorem dSmall_any (t : VT) (P : Nat → Prop) (w : World) (hR : Rd P w t) :
    Calls Tryz.prog 88 #[t.arg] w fun e w' => (∃ b : Bool, e = .returned (.bool b) ∧ (b = true → 0 ≤ t.v.cnt 400 ∧ V.Kfit t.v)) ∧ Below w.heap.size w w' := by
  have hRt := hR
  obtain ⟨tk, tn, ts, ka, kc, la, lc, ks, l, rfl, hK, hL, hmk, hml⟩ := hR.open
  have hB0 := (Below.refl w.heap.size w).alloc (Nat.le_refl _) (.cells #[.int .u8 tk, .int .u64 tn, .string ts, .slice ka ks.length kc, .slice la l.length lc] 60)
  have b0 := Blk.new w [.int .u8 tk, .int .u64 tn, .string ts, .slice ka ks.length kc, .slice la l.length lc] 60
  have h1 := dleft_any _ P _ 400 (hRt.pure hB0) (by omega) (by omega)
  have hd := fun (u : World) (hu : Below w.heap.size w u) => dtoodeep_any _ P u 40 (hRt.pure hu) (by omega)
  have hs := fun (u : World) (hu : Below w.heap.size w u) => dsmallN_any _ P u 20000 (hRt.pure hu) (by omega) (by omega)
  have c0 := b0.at 0 rfl; have c1 := b0.at 1 rfl; have c2 := b0.at 2 rfl; have c3 := b0.at 3 rfl; have c4 := b0.at 4 rfl
  obtain ⟨r, hr⟩ : ∃ r, (VT.mk tk tn ts (.slice ka ks.length kc) (.slice la l.length lc) ks l).v.cnt 400 = r := ⟨_, rfl⟩
  obtain ⟨d, hdd⟩ : ∃ d, (VT.mk tk tn ts (.slice ka ks.length kc) (.slice la l.length lc) ks l).v.deep 40 = d := ⟨_, rfl⟩
  rw [hr] at h1 ⊢
  rw [hdd] at hd
  simp only [VT.arg_mk] at h1 hd hs ⊢
  have hd' : ∀ u : World, Below w.heap.size w u → Calls Tryz.prog 105 #[.agg #[.int .u8 tk, .int .u64 tn, .string ts, .slice ka ks.length kc, .slice la l.length lc], .int .i64 40] u fun e w' => e = .returned (.bool d) ∧ Below u.heap.size u w' := hd
  have h1 := Lib.hid h1
  have hd := Lib.hid hd'
  have hs := Lib.hid hs
  clear hr hdd hR hRt hmk hml hd'
  by_cases hz : r < 0
  · have h2 : decide (r < 0) = true := decide_eq_true hz
    go_enter Tryz.func88, Tryz.ntmps88
    go_wp2_with (first | (go_at_call 104; (with_reducible refine h1.out.mono ?_); rintro e w1 ⟨rfl, hB1⟩; have hB2 := hB0.trans (hB1.mono hB0.size)))
    go_ret
    exact ⟨⟨false, rfl, fun h => absurd h (by simp)⟩, hB2⟩
  · have h2 : decide (r < 0) = false := decide_eq_false hz
    cases d
    · go_enter Tryz.func88, Tryz.ntmps88
      go_wp2_with (first | (go_at_call 104; (with_reducible refine h1.out.mono ?_); rintro e w1 ⟨rfl, hB1⟩; have hB2 := hB0.trans (hB1.mono hB0.size); have k1 := b0.pure hB1; have c0 := k1.at 0 rfl; have c1 := k1.at 1 rfl; have c2 := k1.at 2 rfl; have c3 := k1.at 3 rfl; have c4 := k1.at 4 rfl) | (go_at_call 105; (with_reducible refine (hd.out _ hB2).mono ?_); rintro e w2 ⟨rfl, hB3⟩; have hB4 := hB2.trans (hB3.mono hB2.size); have k2 := (b0.pure hB1).below hB3 (by have := hB1.size; simp at this; omega); have c0 := k2.at 0 rfl; have c1 := k2.at 1 rfl; have c2 := k2.at 2 rfl; have c3 := k2.at 3 rfl; have c4 := k2.at 4 rfl) | (go_at_call 106; (with_reducible refine (hs.out _ hB4).mono ?_); rintro e w3 ⟨⟨m, rfl, -, -, hmf⟩, hB5⟩; have hmfh := Lib.hid hmf; clear hmf; have hB6 := hB4.trans (hB5.mono hB4.size)))
      go_ret
      exact ⟨⟨_, rfl, fun h => ⟨by omega, hmfh.out (of_decide_eq_true h)⟩⟩, hB6⟩
    · go_enter Tryz.func88, Tryz.ntmps88
      go_wp2_with (first | (go_at_call 104; (with_reducible refine h1.out.mono ?_); rintro e w1 ⟨rfl, hB1⟩; have hB2 := hB0.trans (hB1.mono hB0.size); have k1 := b0.pure hB1; have c0 := k1.at 0 rfl; have c1 := k1.at 1 rfl; have c2 := k1.at 2 rfl; have c3 := k1.at 3 rfl; have c4 := k1.at 4 rfl) | (go_at_call 105; (with_reducible refine (hd.out _ hB2).mono ?_); rintro e w2 ⟨rfl, hB3⟩; have hB4 := hB2.trans (hB3.mono hB2.size)))
      go_ret
      exact ⟨⟨false, rfl, fun h => absurd h (by simp)⟩, hB4⟩
end Go.Proofs.YtflglpbjapgciaaGreatDoor
