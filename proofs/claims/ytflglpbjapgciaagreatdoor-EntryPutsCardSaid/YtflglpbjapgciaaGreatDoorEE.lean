/- Entries: Put, the program's. Conditions: utf8's tables are laid. Written by gen_enF.py. (Texts joined.) -/
import Derived.Test.YtflglpbjapgciaaGreatDoorEB

namespace Go.Proofs.YtflglpbjapgciaaGreatDoor
set_option linter.unusedSimpArgs false
set_option linter.unusedVariables false
open Go.RowKit
set_option maxRecDepth 100000 in
set_option maxHeartbeats 1600000 in
theorem etext_any (w : World) (bv : Value) (L : List UInt8) (s : ByteArray) (hS : Slc byEnc 1 w bv L) (hs : s.size ≤ 255) (hL : L.length ≤ 4000000) :
    Calls Tryz.prog 18 #[bv, .string s] w fun e w' => ∃ r, e = .returned r ∧ Own w.heap.size 5 1 byEnc w' r (L ++ sT s) ∧ Below w.heap.size w w' := by
  obtain ⟨ba, bc, rfl, -⟩ := hS.len
  have hst := Lib.hid (show be 1 s.size ++ s.data.toList = sT s by unfold sT; rw [be_one (by omega)]; rfl)
  have h := oputtext_yes w (.slice ba L.length bc) L s 1 hS (by omega) (by omega) (by unfold Big; omega)
  rw [hst.out] at h
  have hh := Lib.hid h
  clear h hs hL
  go_enter Tryz.func18, Tryz.ntmps18
  go_wp2_with (go_at_call 24; refine (hh.out).mono ?_; rintro e w2 ⟨r2, rfl, O2, hB2⟩)
  go_ret
  exact ⟨_, rfl, O2, hB2⟩
theorem otext1 (w : World) (v : Value) (L : List UInt8) (s : ByteArray) (hv : Slc byEnc 1 w v L) (hs : s.size ≤ 255) (hL : L.length ≤ 4000000) :
    Calls Tryz.prog 24 #[v, .string s, .int .i64 1] w fun e w' => ∃ r, e = .returned (.tuple #[r, .int .i64 0]) ∧ Own w.heap.size 5 1 byEnc w' r (L ++ sT s) ∧ Below w.heap.size w w' := by
  have h := oputtext_yes w v L s 1 hv (by omega) (by omega) (by unfold Big; omega)
  have hst : be 1 s.size ++ s.data.toList = sT s := by unfold sT; rw [be_one (by omega)]; rfl
  rw [hst] at h
  exact h
theorem oput4 (w : World) (v : Value) (L : List UInt8) (n : Int) (hv : Slc byEnc 1 w v L) (hn : 0 ≤ n) (hL : L.length ≤ 4000000) :
    Calls Tryz.prog 19 #[v, .int .u64 n, .int .i64 4] w fun e w' => ∃ r, e = .returned r ∧ Own w.heap.size 5 1 byEnc w' r (L ++ be 4 n.toNat) ∧ Below w.heap.size w w' := oput_any w v L n 4 hv hn (by unfold Wd; omega) (by unfold Big; omega)
set_option maxRecDepth 100000 in
set_option maxHeartbeats 3200000 in
theorem xput_any (w : World) (xf : Int) (xg xb : ByteArray) (hok : Xn.okB (xf, xg, xb) = true) (h0 : 0 ≤ xf) (h1 : xf < 4294967296) :
    Calls Tryz.prog 20 #[.agg #[.int .u32 xf, .string xg, .string xb]] w fun e w' => ∃ r, e = .returned (.tuple #[r, .int .i64 0]) ∧ Own w.heap.size 5 1 byEnc w' r (Xn.bytes (xf, xg, xb)) ∧ Below w.heap.size w w' := by
  have hB1 := (Below.refl w.heap.size w).alloc (Nat.le_refl _) (.cells #[.int .u32 xf, .string xg, .string xb] 25)
  have A1 := Blk.new w [.int .u32 xf, .string xg, .string xb] 25
  have a0 := A1.at 0 rfl; have a1 := A1.at 1 rfl; have a2 := A1.at 2 rfl
  have hsz := Lib.hid (show xg.size ≤ 64 ∧ xb.size ≤ 64 by unfold Xn.okB at hok; simp only [Bool.and_eq_true, decide_eq_true_eq] at hok; exact ⟨hok.1.2, hok.2⟩)
  have hck := fun (u : World) => xn_chk u xf xg xb
  simp only [hok, if_true] at hck
  have hckh := Lib.hid hck
  have hw : IntKind.u64.wrap xf = xf := wrap_u64 _ h0 (by omega)
  have hfin := Lib.hid (show (be 4 xf.toNat ++ sT xg) ++ sT xb = Xn.bytes (xf, xg, xb) by unfold Xn.bytes; rw [List.append_assoc])
  have l1 := Lib.hid (sT_len xg)
  clear hck hok h1
  go_enter Tryz.func20, Tryz.ntmps20
  go_wp2_with (first | (go_at_call 34; (with_reducible refine (hckh.out _).mono ?_); rintro e w2 ⟨rfl, hB2⟩; have A2 := A1.pure hB2; have hT2 := hB1.trans (hB2.mono hB1.size); clear a0 a1 a2; have b0 := A2.at 0 rfl; have b1 := A2.at 1 rfl; have b2 := A2.at 2 rfl) | (go_at_call 19; (with_reducible refine (oput4 _ _ ([] : List UInt8) xf (Slc.nil _ _ _) h0 (by simp)).mono ?_); rintro e w3 ⟨r3, rfl, O3, hB3⟩; rw [List.nil_append] at O3; obtain ⟨M3, hM3⟩ : ∃ M, be 4 xf.toNat = M := ⟨_, rfl⟩; have hM3h := Lib.hid hM3; have hM3l := Lib.hid (show M3.length = 4 by rw [← hM3, be_len]); rw [hM3] at O3; clear hM3; obtain ⟨ra3, rc3, rfl⟩ := own_lenB O3; have A3 := A2.pure hB3; have hT3 := hT2.trans (hB3.mono hT2.size); clear b0 b1 b2; have c1 := A3.at 1 rfl; have c2 := A3.at 2 rfl) | (go_at_call 24; (with_reducible refine (otext1 _ _ M3 xg (O3.slc byEnc_len) (by have := hsz.out.1; omega) (by have := hM3l.out; omega)).mono ?_); rintro e w4 ⟨r4, rfl, O4, hB4⟩; obtain ⟨M4, hM4⟩ : ∃ M, M3 ++ sT xg = M := ⟨_, rfl⟩; have hM4h := Lib.hid hM4; have hM4l := Lib.hid (show M4.length ≤ 100 by have h5 := hsz.out; have h6 := l1.out; have h7 := hM3l.out; rw [← hM4, List.length_append]; omega); rw [hM4] at O4; clear hM4; obtain ⟨ra4, rc4, rfl⟩ := own_lenB O4; have A4 := A3.pure hB4; have hT4 := hT3.trans (hB4.mono hT3.size); clear c1 c2; have d2 := A4.at 2 rfl) | (go_at_call 24; (with_reducible refine (otext1 _ _ M4 xb (O4.slc byEnc_len) (by have := hsz.out.2; omega) (by have := hM4l.out; omega)).mono ?_); rintro e w5 ⟨r5, rfl, O5, hB5⟩; rw [← hM4h.out, ← hM3h.out, hfin.out] at O5; have hT5 := hT4.trans (hB5.mono hT4.size)))
  go_ret2
  exact ⟨_, rfl, O5.rebase (fun i hi => Nat.le_trans hT4.size (O5.ge hi)), hT5⟩
/-- What is asked of a put that is written. -/
structure Pt.Fit (p : Pt) : Prop where
  q : p.q.size ≤ 255
  i0 : 0 ≤ p.id
  i1 : p.id < 18446744073709551616
  c : p.pr.chk = 0
  b : p.pr.bytes.length ≤ 8192
  d : p.body.size ≤ 4096
theorem Pt.fit {p : Pt} {num : Bool} (h : Pt.okB num p = true) (h0 : 0 ≤ p.id) (h1 : p.id < 18446744073709551616) : p.Fit := by
  unfold Pt.okB Pr.smallB at h
  simp only [Bool.and_eq_true, decide_eq_true_eq] at h
  exact ⟨by have := qn_le h.1.1.1.1; omega, h0, h1, h.2.1, h.2.2, h.1.2⟩
theorem Pt.Fit.len {p : Pt} (h : p.Fit) : p.bytes.length ≤ 12700 := by
  have h1 := h.q; have h2 := h.b; have h3 := h.d
  unfold Pt.bytes
  simp only [List.length_append, be_len, sT_len, ba_len]
  omega
set_option maxRecDepth 100000 in
set_option maxHeartbeats 6400000 in
theorem put1_any (w : World) (bv : Value) (L : List UInt8) (t : PtT) (P : Nat → Prop) (hS : Slc byEnc 1 w bv L) (hL : L.length ≤ 3900000) (hR : Rd P w t.pr.app) (hF : t.p.Fit) (hT : Tb w) :
    Calls Tryz.prog 22 #[bv, t.arg] w fun e w' => ∃ r, e = .returned r ∧ Own w.heap.size 5 1 byEnc w' r (L ++ t.p.bytes) ∧ Below w.heap.size w w' := by
  obtain ⟨q, id, ⟨key, dur, red, mid, uv⟩, body⟩ := t
  have hR : Rd _ _ uv := hR
  obtain ⟨uk, un, us, uka, ukc, ula, ulc, uks, ul, rfl, -⟩ := hR.open
  obtain ⟨ba, bc, rfl, -⟩ := hS.len
  rw [PtT.arg_mk]
  have hB1 := (Below.refl w.heap.size w).alloc (Nat.le_refl _) (.cells #[.string q, .int .u64 id, .string key, .bool dur, .bool red, .string mid, .int .u8 uk, .int .u64 un, .string us, .slice uka uks.length ukc, .slice ula ul.length ulc, .string body] 64)
  have A1 := Blk.new w [.string q, .int .u64 id, .string key, .bool dur, .bool red, .string mid, .int .u8 uk, .int .u64 un, .string us, .slice uka uks.length ukc, .slice ula ul.length ulc, .string body] 64
  have S1 := hS.pure hB1
  obtain ⟨px, hpx⟩ : ∃ px, (PT.mk key dur red mid (VT.mk uk un us (.slice uka uks.length ukc) (.slice ula ul.length ulc) uks ul)).p = px := ⟨_, rfl⟩
  have hput := p9put_any (PT.mk key dur red mid (VT.mk uk un us (.slice uka uks.length ukc) (.slice ula ul.length ulc) uks ul)) P _ (hR.pure hB1) (hT.pure hB1)
  have hc : px.chk = 0 := by rw [← hpx]; exact hF.c
  rw [hpx, hc, if_pos rfl, PT.arg_mk] at hput
  obtain ⟨tx, htx⟩ : ∃ tx, px.text = tx := ⟨_, rfl⟩
  rw [htx] at hput
  have hputh := Lib.hid hput
  have htz := Lib.hid (show tx.size = px.bytes.length ∧ tx.data.toList = px.bytes ∧ px.bytes.length ≤ 8192 by rw [← htx]; exact ⟨rfl, rfl, by rw [← hpx]; exact hF.b⟩)
  have hFh := Lib.hid (show q.size ≤ 255 ∧ 0 ≤ id ∧ id < 18446744073709551616 ∧ body.size ≤ 4096 from ⟨hF.q, hF.i0, hF.i1, hF.d⟩)
  have hi0 : 0 ≤ id := hF.i0
  have hbytes := Lib.hid (show (((L ++ sT q) ++ be 8 id.toNat) ++ (be 4 tx.size ++ tx.data.toList)) ++ (be 2 body.size ++ body.data.toList) = L ++ (PtT.mk q id (PT.mk key dur red mid (VT.mk uk un us (.slice uka uks.length ukc) (.slice ula ul.length ulc) uks ul)) body).p.bytes by
    show _ = L ++ (sT q ++ (be 8 id.toNat ++ (be 4 (PT.mk key dur red mid (VT.mk uk un us (.slice uka uks.length ukc) (.slice ula ul.length ulc) uks ul)).p.bytes.length ++ ((PT.mk key dur red mid (VT.mk uk un us (.slice uka uks.length ukc) (.slice ula ul.length ulc) uks ul)).p.bytes ++ (be 2 body.size ++ body.data.toList)))))
    rw [hpx, htz.out.1, htz.out.2.1]
    simp only [List.append_assoc])
  have hLh := Lib.hid hL
  have hql := Lib.hid (sT_len q)
  have a0 := A1.at 0 rfl; have a1 := A1.at 1 rfl; have a2 := A1.at 2 rfl; have a3 := A1.at 3 rfl; have a4 := A1.at 4 rfl; have a5 := A1.at 5 rfl; have a6 := A1.at 6 rfl; have a7 := A1.at 7 rfl; have a8 := A1.at 8 rfl; have a9 := A1.at 9 rfl; have a10 := A1.at 10 rfl; have a11 := A1.at 11 rfl
  clear hput htx hpx hc hF hL
  go_enter Tryz.func22, Tryz.ntmps22
  go_upto_region 2 with (go_at_call 23; refine (hputh.out).mono ?_; rintro e w2 ⟨rfl, hB2⟩; have A2 := A1.pure hB2; have S2 := S1.pure hB2; have hT2 := hB1.trans (hB2.mono hB1.size))
  have hA2 := Lib.hid (fun (u : World) (h : Below w2.heap.size w2 u) => A2.pure h)
  clear a0 a1 a2 a3 a4 a5 a6 a7 a8 a9 a10 a11
  have hb := below_refl_dr w2
  refine wp_region_held_drew (S := fun u => Below w2.heap.size w2 u) (by kernel_rfl) hb (fun hHeld => ?_)
  refine takeY 0 14 rfl rfl (v := ?_) ?_ hHeld ?_
  rotate_left 1
  · (intro u hSw; (try dsimp only at hSw); clear hSw; go_simp; (try with_reducible rfl))
  try simp only [Act.put, lsT, lsZ, lsS]
  refine takeY 1 15 rfl rfl (v := ?_) ?_ hHeld ?_
  rotate_left 1
  · (intro u hSw; (try dsimp only at hSw); clear hSw; go_simp; (try with_reducible rfl))
  try simp only [Act.put, lsT, lsZ, lsS]
  refine takeY 2 16 rfl rfl (v := ?_) ?_ hHeld ?_
  rotate_left 1
  · (intro u hSw; (try dsimp only at hSw); have q := hA2.out u hSw; have qc := q.at 0 rfl; clear hSw; go_simp; (try with_reducible rfl))
  try simp only [Act.put, lsT, lsZ, lsS]
  refine takeY 4 18 rfl rfl (v := ?_) ?_ hHeld ?_
  rotate_left 1
  · (intro u hSw; (try dsimp only at hSw); clear hSw; go_simp; (try with_reducible rfl))
  try simp only [Act.put, lsT, lsZ, lsS]
  refine takeY 5 19 rfl rfl (v := ?_) ?_ hHeld ?_
  rotate_left 1
  · (intro u hSw; (try dsimp only at hSw); have q := hA2.out u hSw; have qc := q.at 1 rfl; clear hSw; go_simp; (try with_reducible rfl))
  try simp only [Act.put, lsT, lsZ, lsS]
  refine takeY 7 21 rfl rfl (v := ?_) ?_ hHeld ?_
  rotate_left 1
  · (intro u hSw; (try dsimp only at hSw); clear hSw; go_simp; (try with_reducible rfl))
  try simp only [Act.put, lsT, lsZ, lsS]
  refine wpAnyH_ready (rs := [3]) (by kernel_rfl) (by simp) ?_
  refine AllReadyH.cons rfl (fun K hK => ?_) AllReadyH.nil
  go_simp
  go_at_call 18
  refine (etext_any _ _ L q (S2.pure hb) hFh.out.1 (by have := hLh.out; omega)).mono ?_
  rintro e w3 ⟨r3, rfl, O3, hB3⟩
  obtain ⟨M3, hM3⟩ : ∃ M, L ++ sT q = M := ⟨_, rfl⟩
  have hM3h := Lib.hid hM3
  rw [hM3] at O3
  clear hM3
  obtain ⟨ra3, rc3, rfl⟩ := own_lenB O3
  have hb := hb.trans (hB3.mono hb.size)
  refine hK.out _ _ hb (fun hHeld => ?_)
  clear hK K
  try simp only [Act.put, lsT, lsZ, lsS]
  refine wpAnyH_ready (rs := [6]) (by kernel_rfl) (by simp) ?_
  refine AllReadyH.cons rfl (fun K hK => ?_) AllReadyH.nil
  go_simp
  go_at_call 19
  refine (oput_any _ _ M3 id 8 (O3.slc byEnc_len) hi0 (by unfold Wd; omega) (by have h1 := hLh.out; have h2 := hql.out; have h3 := hFh.out.1; rw [← hM3h.out, List.length_append]; unfold Big; omega)).mono ?_
  rintro e w4 ⟨r4, rfl, O4, hB4⟩
  obtain ⟨M4, hM4⟩ : ∃ M, M3 ++ be 8 id.toNat = M := ⟨_, rfl⟩
  have hM4h := Lib.hid hM4
  rw [hM4] at O4
  clear hM4
  obtain ⟨ra4, rc4, rfl⟩ := own_lenB O4
  have hb := hb.trans (hB4.mono hb.size)
  refine hK.out _ _ hb (fun hHeld => ?_)
  clear hK K
  try simp only [Act.put, lsT, lsZ, lsS]
  refine wpAnyH_ready (rs := [8]) (by kernel_rfl) (by simp) ?_
  refine AllReadyH.cons rfl (fun K hK => ?_) AllReadyH.nil
  go_simp
  go_at_call 24
  refine (oputtext_yes _ _ M4 tx 4 (O4.slc byEnc_len) (by omega) (by have h1 := htz.out; omega) (by have h1 := hLh.out; have h2 := hql.out; have h3 := hFh.out.1; have h4 := htz.out; rw [← hM4h.out, ← hM3h.out, List.length_append, List.length_append, be_len]; unfold Big; omega)).mono ?_
  rintro e w5 ⟨r5, rfl, O5, hB5⟩
  obtain ⟨M5, hM5⟩ : ∃ M, M4 ++ (be 4 tx.size ++ tx.data.toList) = M := ⟨_, rfl⟩
  have hM5h := Lib.hid hM5
  rw [hM5] at O5
  clear hM5
  obtain ⟨ra5, rc5, rfl⟩ := own_lenB O5
  have hb := hb.trans (hB5.mono hb.size)
  refine hK.out _ _ hb (fun hHeld => ?_)
  clear hK K
  try simp only [Act.put, lsT, lsZ, lsS]
  refine takeY 9 13 rfl rfl (v := ?_) ?_ hHeld ?_
  rotate_left 1
  · (intro u hSw; (try dsimp only at hSw); clear hSw; go_simp; (try with_reducible rfl))
  try simp only [Act.put, lsT, lsZ, lsS]
  refine takeY 10 23 rfl rfl (v := ?_) ?_ hHeld ?_
  rotate_left 1
  · (intro u hSw; (try dsimp only at hSw); clear hSw; go_simp; (try with_reducible rfl))
  try simp only [Act.put, lsT, lsZ, lsS]
  refine takeY 11 24 rfl rfl (v := ?_) ?_ hHeld ?_
  rotate_left 1
  · (intro u hSw; (try dsimp only at hSw); clear hSw; go_simp; (try with_reducible rfl))
  try simp only [Act.put, lsT, lsZ, lsS]
  refine wpAnyH_ready (rs := [12]) (by kernel_rfl) (by simp) ?_
  refine AllReadyH.cons rfl (fun K hK => ?_) AllReadyH.nil
  go_simp
  refine hK.out _ _ hb (fun hHeld => ?_)
  clear hK K
  try simp only [Act.put, lsT, lsZ, lsS]
  refine wpAnyH_done (by kernel_rfl) ?_ _
  have A6 := hA2.out _ hb
  have a11 := A6.at 11 rfl
  have hM5l := Lib.hid (show M5.length ≤ 3950000 by have h1 := hLh.out; have h2 := hql.out; have h3 := hFh.out.1; have h4 := htz.out; rw [← hM5h.out, ← hM4h.out, ← hM3h.out, List.length_append, List.length_append, List.length_append, List.length_append, be_len, be_len, h4.2.1]; omega)
  go_wp2_with (go_at_call 24; refine (oputtext_yes _ _ M5 body 2 (O5.slc byEnc_len) (by omega) (by have := hFh.out; omega) (by have h1 := hM5l.out; have h2 := hFh.out; unfold Big; omega)).mono ?_; rintro e w6 ⟨r6, rfl, O6, hB6⟩; rw [← hM5h.out, ← hM4h.out, ← hM3h.out, hbytes.out] at O6; have hb6 := hb.trans (hB6.mono hb.size))
  go_ret
  exact ⟨_, rfl, O6.rebase (fun i hi => Nat.le_trans (hT2.trans (hb.mono hT2.size)).size (O6.ge hi)), hT2.trans (hb6.mono hT2.size)⟩
set_option maxRecDepth 100000 in
set_option maxHeartbeats 3200000 in
theorem put2_any (w : World) (bv : Value) (L : List UInt8) (q : ByteArray) (id : Int) (hS : Slc byEnc 1 w bv L) (hL : L.length ≤ 3900000) (hq : q.size ≤ 255) (hi0 : 0 ≤ id) :
    Calls Tryz.prog 26 #[bv, .agg #[.string q, .int .u64 id]] w fun e w' => ∃ r, e = .returned r ∧ Own w.heap.size 5 1 byEnc w' r (L ++ Rf.bytes ⟨q, id⟩) ∧ Below w.heap.size w w' := by
  obtain ⟨ba, bc, rfl, -⟩ := hS.len
  have hB1 := (Below.refl w.heap.size w).alloc (Nat.le_refl _) (.cells #[.string q, .int .u64 id] 47)
  have A1 := Blk.new w [.string q, .int .u64 id] 47
  have S1 := hS.pure hB1
  have hbytes := Lib.hid (show (L ++ sT q) ++ be 8 id.toNat = L ++ Rf.bytes ⟨q, id⟩ by unfold Rf.bytes; rw [List.append_assoc])
  have hLh := Lib.hid hL; have hqh := Lib.hid hq; have hql := Lib.hid (sT_len q)
  clear hL hq
  go_enter Tryz.func26, Tryz.ntmps26
  go_upto_region 1 with fail
  generalize World.alloc w (.cells #[.string q, .int .u64 id] 47) = w2 at *
  have hA2 := Lib.hid (fun (u : World) (h : Below w2.heap.size w2 u) => A1.pure h)
  have hb := below_refl_dr w2
  refine wp_region_held_drew (S := fun u => Below w2.heap.size w2 u) (by kernel_rfl) hb (fun hHeld => ?_)
  refine takeY 0 5 rfl rfl (v := ?_) ?_ hHeld ?_
  rotate_left 1
  · (intro u hSw; (try dsimp only at hSw); clear hSw; go_simp; (try with_reducible rfl))
  try simp only [Act.put, lsT, lsZ, lsS]
  refine takeY 1 6 rfl rfl (v := ?_) ?_ hHeld ?_
  rotate_left 1
  · (intro u hSw; (try dsimp only at hSw); clear hSw; go_simp; (try with_reducible rfl))
  try simp only [Act.put, lsT, lsZ, lsS]
  refine takeY 2 7 rfl rfl (v := ?_) ?_ hHeld ?_
  rotate_left 1
  · (intro u hSw; (try dsimp only at hSw); have q := hA2.out u hSw; have qc := q.at 0 rfl; clear hSw; go_simp; (try with_reducible rfl))
  try simp only [Act.put, lsT, lsZ, lsS]
  refine takeY 4 9 rfl rfl (v := ?_) ?_ hHeld ?_
  rotate_left 1
  · (intro u hSw; (try dsimp only at hSw); clear hSw; go_simp; (try with_reducible rfl))
  try simp only [Act.put, lsT, lsZ, lsS]
  refine takeY 5 10 rfl rfl (v := ?_) ?_ hHeld ?_
  rotate_left 1
  · (intro u hSw; (try dsimp only at hSw); have q := hA2.out u hSw; have qc := q.at 1 rfl; clear hSw; go_simp; (try with_reducible rfl))
  try simp only [Act.put, lsT, lsZ, lsS]
  refine wpAnyH_ready (rs := [3]) (by kernel_rfl) (by simp) ?_
  refine AllReadyH.cons rfl (fun K hK => ?_) AllReadyH.nil
  go_simp
  go_at_call 18
  refine (etext_any _ _ L q (S1.pure hb) hqh.out (by have := hLh.out; omega)).mono ?_
  rintro e w3 ⟨r3, rfl, O3, hB3⟩
  obtain ⟨M3, hM3⟩ : ∃ M, L ++ sT q = M := ⟨_, rfl⟩
  have hM3h := Lib.hid hM3
  rw [hM3] at O3
  clear hM3
  obtain ⟨ra3, rc3, rfl⟩ := own_lenB O3
  have hb := hb.trans (hB3.mono hb.size)
  refine hK.out _ _ hb (fun hHeld => ?_)
  clear hK K
  try simp only [Act.put, lsT, lsZ, lsS]
  refine wpAnyH_ready (rs := [6]) (by kernel_rfl) (by simp) ?_
  refine AllReadyH.cons rfl (fun K hK => ?_) AllReadyH.nil
  go_simp
  go_at_call 19
  refine (oput_any _ _ M3 id 8 (O3.slc byEnc_len) hi0 (by unfold Wd; omega) (by have h1 := hLh.out; have h2 := hql.out; have h3 := hqh.out; rw [← hM3h.out, List.length_append]; unfold Big; omega)).mono ?_
  rintro e w4 ⟨r4, rfl, O4, hB4⟩
  rw [← hM3h.out, hbytes.out] at O4
  have hb := hb.trans (hB4.mono hb.size)
  refine hK.out _ _ hb (fun hHeld => ?_)
  clear hK K
  try simp only [Act.put, lsT, lsZ, lsS]
  refine wpAnyH_ready (rs := [7]) (by kernel_rfl) (by simp) ?_
  refine AllReadyH.cons rfl (fun K hK => ?_) AllReadyH.nil
  go_simp
  refine hK.out _ _ hb (fun hHeld => ?_)
  clear hK K
  try simp only [Act.put, lsT, lsZ, lsS]
  refine wpAnyH_done (by kernel_rfl) ?_ _
  go_wp2
  go_ret
  exact ⟨_, rfl, O4.rebase (fun i hi => Nat.le_trans hB1.size (Nat.le_trans (Nat.le_trans (below_refl_dr w2).size (Nat.le_refl _)) (by have h1 := O4.ge hi; have h2 := hB3.size; have h3 := (below_refl_dr w2).size; omega))), hB1.trans (hb.mono hB1.size)⟩
set_option maxRecDepth 100000 in
set_option maxHeartbeats 3200000 in
theorem putall1_any (w : World) (bv : Value) (L : List UInt8) (pa : Option Addr) (pc : Nat) (xs : List PtT) (P : Nat → Prop) (hS : Slc byEnc 1 w bv L) (hL : L.length ≤ 2000000) (hX : Slc ptEnc 12 w (.slice pa xs.length pc) xs) (hn : xs.length ≤ 100) (hR : ∀ x ∈ xs, Rd P w x.pr.app) (hF : ∀ x ∈ xs, x.p.Fit) (hT : Tb w) :
    Calls Tryz.prog 21 #[bv, .slice pa xs.length pc, .func (.func 22) #[] #[]] w fun e w' => ∃ r, e = .returned r ∧ Own w.heap.size 5 1 byEnc w' r (L ++ UInt8.ofNat xs.length :: xs.flatMap (fun x : PtT => x.p.bytes)) ∧ Below w.heap.size w w' := by
  obtain ⟨ba, bc, rfl, -⟩ := hS.len
  have hw : IntKind.u64.wrap (xs.length : Int) = (xs.length : Int) := wrap_u64 _ (by omega) (by omega)
  have hn0 : (0 : Int) ≤ (xs.length : Int) := by omega
  have hnn : (xs.length : Int) ≤ 100 := by omega
  have hnh := Lib.hid hn
  have hLh := Lib.hid hL
  have h1 := Lib.hid (show be 1 xs.length = [UInt8.ofNat xs.length] from be_one (by omega))
  clear hn hL
  go_enter Tryz.func21, Tryz.ntmps21
  go_upto_region 2 with (go_at_call 19; refine (oput_any _ _ L (xs.length : Int) 1 hS hn0 (by unfold Wd; omega) (by have := hLh.out; unfold Big; omega)).mono ?_; rintro e w1 ⟨r1, rfl, O1, hB1⟩; rw [Int.toNat_natCast, h1.out] at O1)
  go_wp2
  go_loopw [0, 16] (fun s0 s16 wr => ∃ (k : Nat) (M : List UInt8), k ≤ xs.length ∧ s16 = .int .i64 k ∧ Own w.heap.size 5 1 byEnc wr s0 M ∧ Hid (M = L ++ UInt8.ofNat xs.length :: (xs.take k).flatMap (fun x : PtT => x.p.bytes)) ∧ Hid (M.length ≤ L.length + 1 + k * 12700) ∧ Below w.heap.size w wr) (fun s0 s16 _ => xs.length - (intOf s16).toNat)
  case atStart => exact ⟨0, _, by omega, rfl, O1, Lib.hid (by simp), Lib.hid (by simp), hB1⟩
  case round =>
    obtain ⟨k, M, hk, rfl, hO, hM, hMl, hB⟩ := hrel
    obtain ⟨oa, oc, rfl⟩ := own_lenB hO
    by_cases hlt : k < xs.length
    · have g1 : (k : Int) < (xs.length : Int) := by omega
      have hXr := hX.pure hB
      obtain ⟨g, off, rfl⟩ := hXr.addrB hlt
      have hmem := List.getElem_mem hlt
      have hRk := (hR _ hmem).pure hB
      have hFk := hF _ hmem
      obtain ⟨q, id, key, dur, red, mid, uk, un, us, uka, ukc, ula, ulc, uks, ul, body, hx, q0, q1, q2, q3, q4, q5, q6, q7, q8, q9, q10, q11⟩ := pt_elem hXr hlt hRk
      rw [hx] at hRk hFk
      have htk := Lib.hid (show (xs.take (k + 1)).flatMap (fun x : PtT => x.p.bytes) = (xs.take k).flatMap (fun x : PtT => x.p.bytes) ++ (fun x : PtT => x.p.bytes) xs[k] by rw [List.take_succ_eq_append_getElem hlt, List.flatMap_append, List.flatMap_cons, List.flatMap_nil, List.append_nil])
      rw [hx] at htk
      have hbox := (Below.refl wr.heap.size wr).alloc (Nat.le_refl _) (.cells #[.string q, .int .u64 id, .string key, .bool dur, .bool red, .string mid, .int .u8 uk, .int .u64 un, .string us, .slice uka uks.length ukc, .slice ula ul.length ulc, .string body] 64)
      have hBb := hB.trans (hbox.mono hB.size)
      have hOb := hO.pure hbox
      have bx := Blk.new wr [.string q, .int .u64 id, .string key, .bool dur, .bool red, .string mid, .int .u8 uk, .int .u64 un, .string us, .slice uka uks.length ukc, .slice ula ul.length ulc, .string body] 64
      have hxl := Lib.hid (show (PtT.mk q id (PT.mk key dur red mid (VT.mk uk un us (.slice uka uks.length ukc) (.slice ula ul.length ulc) uks ul)) body).p.bytes.length ≤ 12700 from hFk.len)
      have hp1 := fun (u : World) (Sb : Slc byEnc 1 u (.slice oa M.length oc) M) (Ru : Rd P u (VT.mk uk un us (.slice uka uks.length ukc) (.slice ula ul.length ulc) uks ul)) (hu : Tb u) => put1_any u (.slice oa M.length oc) M (PtT.mk q id (PT.mk key dur red mid (VT.mk uk un us (.slice uka uks.length ukc) (.slice ula ul.length ulc) uks ul)) body) P Sb (by have h1 := hMl.out; have h2 := hLh.out; have h3 := hnh.out; omega) Ru hFk hu
      simp only [PtT.arg_mk] at hp1
      have hp1h := Lib.hid hp1
      have hRb : Rd P _ (VT.mk uk un us (.slice uka uks.length ukc) (.slice ula ul.length ulc) uks ul) := Rd.pure hRk hbox
      have hTb := hT.pure hBb
      have e0 := bx.at 0 rfl; have e1 := bx.at 1 rfl; have e2 := bx.at 2 rfl; have e3 := bx.at 3 rfl; have e4 := bx.at 4 rfl; have e5 := bx.at 5 rfl; have e6 := bx.at 6 rfl; have e7 := bx.at 7 rfl; have e8 := bx.at 8 rfl; have e9 := bx.at 9 rfl; have e10 := bx.at 10 rfl; have e11 := bx.at 11 rfl
      clear hp1 hFk
      clear hx hmem
      go_wp2_with (go_at_call 22; refine (hp1h.out _ (hOb.slc byEnc_len) hRb hTb).mono ?_; rintro e w3 ⟨r3, rfl, O3, hB3⟩; have hB4 := hBb.trans (hB3.mono hBb.size); have O3 := O3.rebase (b' := w.heap.size) (fun i hi => Nat.le_trans hBb.size (O3.ge hi)))
      go_roundw
      case rel => exact ⟨k + 1, _, by omega, by go_num, O3, Lib.hid (by rw [hM.out, htk.out]; simp), Lib.hid (by have h1 := hMl.out; have h2 := hxl.out; rw [List.length_append, Nat.add_mul]; omega), hB4⟩
      case measure => simp [intOf]; omega
    · obtain rfl : k = xs.length := by omega
      have hfin := Lib.hid (show M = L ++ UInt8.ofNat xs.length :: xs.flatMap (fun x : PtT => x.p.bytes) by rw [hM.out, List.take_length])
      go_wp2
      go_ret
      exact ⟨_, rfl, hO.cast hfin.out, hB⟩
set_option maxRecDepth 100000 in
set_option maxHeartbeats 3200000 in
theorem putall2_any (w : World) (bv : Value) (L : List UInt8) (pa : Option Addr) (pc : Nat) (xs : List Rf) (P : Nat → Prop) (hS : Slc byEnc 1 w bv L) (hL : L.length ≤ 2000000) (hX : Slc rfEnc 2 w (.slice pa xs.length pc) xs) (hn : xs.length ≤ 100) (hF : ∀ x ∈ xs, x.q.size ≤ 255 ∧ 0 ≤ x.id) (hT : Tb w) :
    Calls Tryz.prog 25 #[bv, .slice pa xs.length pc, .func (.func 26) #[] #[]] w fun e w' => ∃ r, e = .returned r ∧ Own w.heap.size 5 1 byEnc w' r (L ++ UInt8.ofNat xs.length :: xs.flatMap Rf.bytes) ∧ Below w.heap.size w w' := by
  obtain ⟨ba, bc, rfl, -⟩ := hS.len
  have hw : IntKind.u64.wrap (xs.length : Int) = (xs.length : Int) := wrap_u64 _ (by omega) (by omega)
  have hn0 : (0 : Int) ≤ (xs.length : Int) := by omega
  have hnn : (xs.length : Int) ≤ 100 := by omega
  have hnh := Lib.hid hn
  have hLh := Lib.hid hL
  have h1 := Lib.hid (show be 1 xs.length = [UInt8.ofNat xs.length] from be_one (by omega))
  clear hn hL
  go_enter Tryz.func25, Tryz.ntmps25
  go_upto_region 2 with (go_at_call 19; refine (oput_any _ _ L (xs.length : Int) 1 hS hn0 (by unfold Wd; omega) (by have := hLh.out; unfold Big; omega)).mono ?_; rintro e w1 ⟨r1, rfl, O1, hB1⟩; rw [Int.toNat_natCast, h1.out] at O1)
  go_wp2
  go_loopw [0, 16] (fun s0 s16 wr => ∃ (k : Nat) (M : List UInt8), k ≤ xs.length ∧ s16 = .int .i64 k ∧ Own w.heap.size 5 1 byEnc wr s0 M ∧ Hid (M = L ++ UInt8.ofNat xs.length :: (xs.take k).flatMap Rf.bytes) ∧ Hid (M.length ≤ L.length + 1 + k * 12700) ∧ Below w.heap.size w wr) (fun s0 s16 _ => xs.length - (intOf s16).toNat)
  case atStart => exact ⟨0, _, by omega, rfl, O1, Lib.hid (by simp), Lib.hid (by simp), hB1⟩
  case round =>
    obtain ⟨k, M, hk, rfl, hO, hM, hMl, hB⟩ := hrel
    obtain ⟨oa, oc, rfl⟩ := own_lenB hO
    by_cases hlt : k < xs.length
    · have g1 : (k : Int) < (xs.length : Int) := by omega
      have hXr := hX.pure hB
      obtain ⟨g, off, rfl⟩ := hXr.addrB hlt
      have hmem := List.getElem_mem hlt
      have hFk := hF _ hmem
      obtain ⟨q, id, hx, q0, q1⟩ := rf_elem hXr hlt
      rw [hx] at hFk
      have hFq : q.size ≤ 255 := hFk.1
      have hFi : 0 ≤ id := hFk.2
      have htk := Lib.hid (show (xs.take (k + 1)).flatMap Rf.bytes = (xs.take k).flatMap Rf.bytes ++ Rf.bytes xs[k] by rw [List.take_succ_eq_append_getElem hlt, List.flatMap_append, List.flatMap_cons, List.flatMap_nil, List.append_nil])
      rw [hx] at htk
      have hbox := (Below.refl wr.heap.size wr).alloc (Nat.le_refl _) (.cells #[.string q, .int .u64 id] 47)
      have hBb := hB.trans (hbox.mono hB.size)
      have hOb := hO.pure hbox
      have bx := Blk.new wr [.string q, .int .u64 id] 47
      have hxl := Lib.hid (show (Rf.bytes ⟨q, id⟩).length ≤ 12700 by unfold Rf.bytes; rw [List.length_append, sT_len, be_len]; omega)
      have hFqh := Lib.hid hFq
      have e0 := bx.at 0 rfl; have e1 := bx.at 1 rfl
      clear hFk hFq
      clear hx hmem
      go_wp2_with (go_at_call 26; refine (put2_any _ _ M q id (hOb.slc byEnc_len) (by have h1 := hMl.out; have h2 := hLh.out; have h3 := hnh.out; omega) hFqh.out hFi).mono ?_; rintro e w3 ⟨r3, rfl, O3, hB3⟩; have hB4 := hBb.trans (hB3.mono hBb.size); have O3 := O3.rebase (b' := w.heap.size) (fun i hi => Nat.le_trans hBb.size (O3.ge hi)))
      go_roundw
      case rel => exact ⟨k + 1, _, by omega, by go_num, O3, Lib.hid (by rw [hM.out, htk.out]; simp), Lib.hid (by have h1 := hMl.out; have h2 := hxl.out; rw [List.length_append, Nat.add_mul]; omega), hB4⟩
      case measure => simp [intOf]; omega
    · obtain rfl : k = xs.length := by omega
      have hfin := Lib.hid (show M = L ++ UInt8.ofNat xs.length :: xs.flatMap Rf.bytes by rw [hM.out, List.take_length])
      go_wp2
      go_ret
      exact ⟨_, rfl, hO.cast hfin.out, hB⟩
end Go.Proofs.YtflglpbjapgciaaGreatDoor

namespace Go.Proofs.YtflglpbjapgciaaGreatDoor
set_option linter.unusedSimpArgs false
set_option linter.unusedVariables false
open Go.RowKit
theorem us_cases (k : Int) : us k = 0 ∨ us k = 1 ∨ us k = 3 ∨ us k = 4 ∨ us k = 6 ∨ us k = 8 ∨ us k = 12 := by
  unfold us
  split; omega
  split; omega
  split; omega
  split; omega
  split; omega
  split; omega
  omega
theorem oput8 (w : World) (v : Value) (L : List UInt8) (n : Int) (hv : Slc byEnc 1 w v L) (hn : 0 ≤ n) (hL : L.length ≤ 4000000) :
    Calls Tryz.prog 19 #[v, .int .u64 n, .int .i64 8] w fun e w' => ∃ r, e = .returned r ∧ Own w.heap.size 5 1 byEnc w' r (L ++ be 8 n.toNat) ∧ Below w.heap.size w w' := oput_any w v L n 8 hv hn (by unfold Wd; omega) (by unfold Big; omega)
theorem flat_map {α β : Type} (f : β → List UInt8) (g : α → β) : ∀ L : List α, (L.map g).flatMap f = L.flatMap (fun x => f (g x))
  | [] => rfl
  | x :: L => by rw [List.map_cons, List.flatMap_cons, List.flatMap_cons, flat_map f g L]
set_option maxRecDepth 100000 in
set_option maxHeartbeats 12800000 in
theorem eput_any (t : EnT) (P : Nat → Prop) (w : World) (hR : EnRd P w t) (hT : Tb w) : Calls Tryz.prog 8 #[t.arg] w fun e w' => e = .returned (.tuple #[.string (if t.e.chk = 0 then t.e.text else ⟨#[]⟩), .int .i64 t.e.chk]) ∧ Below w.heap.size w w' := by
  obtain ⟨kind, name, n, xf, xg, xb, pa, pc, ta, tc, puts, takes, rfl, hpl, htl⟩ := hR.open
  have hB1 := (Below.refl w.heap.size w).alloc (Nat.le_refl _) (.cells #[.int .u8 kind, .string name, .int .u64 n, .int .u32 xf, .string xg, .string xb, .slice pa puts.length pc, .slice ta takes.length tc] 29)
  have A1 := Blk.new w [.int .u8 kind, .string name, .int .u64 n, .int .u32 xf, .string xg, .string xb, .slice pa puts.length pc, .slice ta takes.length tc] 29
  have R1 := hR.pure hB1
  have hT1 := hT.pure hB1
  obtain ⟨ex, hex⟩ : ∃ ex, (EnT.mk kind name n (xf, xg, xb) (.slice pa puts.length pc) (.slice ta takes.length tc) puts takes).e = ex := ⟨_, rfl⟩
  obtain ⟨cx, hcx⟩ : ∃ cx, ex.chk = cx := ⟨_, rfl⟩
  have hch := echeck_any (EnT.mk kind name n (xf, xg, xb) (.slice pa puts.length pc) (.slice ta takes.length tc) puts takes) P _ R1 hT1
  rw [hex, hcx, EnT.arg_mk] at hch
  rw [hex, hcx, EnT.arg_mk]
  have hchh := Lib.hid hch
  have hexh := Lib.hid hex; have hcxh := Lib.hid hcx
  clear hch hex hcx hpl htl
  have a0 := A1.at 0 rfl; have a1 := A1.at 1 rfl; have a2 := A1.at 2 rfl; have a3 := A1.at 3 rfl; have a4 := A1.at 4 rfl; have a5 := A1.at 5 rfl; have a6 := A1.at 6 rfl; have a7 := A1.at 7 rfl
  by_cases h0 : cx = 0
  rotate_left 1
  · have h1 : (cx == 0) = false := beq_eq_false_iff_ne.2 h0
    have h2 : (cx != 0) = true := bne_iff_ne.2 h0
    have hc9 := Lib.hid (show cx = 130 by rcases en_chk ex with e | e; exact absurd (hcxh.out.symm.trans e) h0; exact hcxh.out.symm.trans e)
    rw [if_neg h0]
    clear h0
    go_enter Tryz.func8, Tryz.ntmps8
    go_wp2_with (go_at_call 10; refine (hchh.out).mono ?_; rintro e w2 ⟨rfl, hB2⟩; have hB12 := hB1.trans (hB2.mono hB1.size))
    go_ret2
    exact ⟨by rw [hc9.out]; rfl, hB12⟩
  subst h0
  rw [if_pos rfl]
  have hok := en_ok.1 hcxh.out
  rw [← hexh.out, ok_eq] at hok
  simp only [Bool.and_eq_true] at hok
  obtain ⟨k0, k1, k2, k3, k4, k5⟩ := hok
  have hwf := hR.wf
  have wk0 : 0 ≤ kind := hwf.k0
  have wk1 : kind < 256 := hwf.k1
  have wn0 : 0 ≤ n := hwf.n0
  have wx0 : 0 ≤ xf := hwf.x0
  have wx1 := Lib.hid (show xf < 4294967296 from hwf.x1)
  have hkb : kind = ((UInt8.ofNat kind.toNat).toNat : Int) := by rw [UInt8.toNat_ofNat']; omega
  obtain ⟨b1, b2, b4, b8⟩ := and_us (us kind) (us_lt kind)
  have hus := fun (v : World) (k : Int) => uses_any v k
  have hkbh := Lib.hid hkb
  have hwfh := Lib.hid hwf
  clear hkb wk0 wk1 hwf
  rcases us_cases kind with h | h | h | h | h | h | h
  · rw [h] at k0; exact absurd k0 (by decide)
  · have nN : uN kind = true := by unfold uN; rw [h]; rfl
    have nM : uM kind = false := by unfold uM; rw [h]; rfl
    have nX : uX kind = false := by unfold uX; rw [h]; rfl
    have nW : uW kind = false := by unfold uW; rw [h]; rfl
    rw [show (us kind % 2 == 1) = true from nN] at b1
    rw [show (us kind / 2 % 2 == 1) = false from nM] at b2
    rw [show (us kind / 4 % 2 == 1) = false from nX] at b4
    rw [show (us kind / 8 % 2 == 1) = false from nW] at b8
    rw [nN] at k1; rw [nM] at k2; rw [nX] at k3
    have hbytes := Lib.hid (show ex.bytes = [UInt8.ofNat kind.toNat] ++ (sT name ++ (([] : List UInt8) ++ (([] : List UInt8) ++ ([] : List UInt8)))) by
      rw [← hexh.out]; unfold EnT.e En.bytes; simp only [nN, nM, nX, nW, List.length_map, flat_map, Bool.false_eq_true, if_false, if_true, List.singleton_append])
    obtain ⟨u, hue⟩ : ∃ u, us kind = u := ⟨_, rfl⟩
    rw [hue] at b1 b2 b4 b8
    have hue := Lib.hid hue
    have hnl := Lib.hid (show name.size ≤ 40 from qn_le (by simpa using k1))
    clear k0 k1 k2 k3 k4 k5 nN nM nX nW h
    go_enter Tryz.func8, Tryz.ntmps8
    go_wp2_with (first | (go_at_call 10; (with_reducible refine (hchh.out).mono ?_); rintro e w2 ⟨rfl, hB2⟩; have hT2 := hB1.trans (hB2.mono hB1.size); have hAh := Lib.hid (fun (v : World) (h : Below w2.heap.size w2 v) => (A1.pure hB2).pure h); have hRh := Lib.hid (fun (v : World) (h : Below w2.heap.size w2 v) => (R1.pure hB2).pure h); have hTh := Lib.hid (fun (v : World) (h : Below w2.heap.size w2 v) => hT.pure (hT2.trans (h.mono hT2.size))); have hb2 := Below.refl w2.heap.size w2; clear a0 a1 a2 a3 a4 a5 a6 a7; have A2 := hAh.out _ hb2; have y2c0 := A2.at 0 rfl; have y2c1 := A2.at 1 rfl; have y2c2 := A2.at 2 rfl; have y2c3 := A2.at 3 rfl; have y2c4 := A2.at 4 rfl; have y2c5 := A2.at 5 rfl; have y2c6 := A2.at 6 rfl; have y2c7 := A2.at 7 rfl) | (go_at_call 17; (with_reducible refine (hus _ _).mono ?_); rintro e _ ⟨he, rfl⟩; rw [hue.out] at he; subst he; have hb3 := hb2.alloc hb2.size (.cells #[.int .u8 kind] 5); have O3 : Own w2.heap.size 5 1 byEnc (w2.alloc (.cells #[.int .u8 kind] 5)) (.slice (some ⟨w2.heap.size, 0, none⟩) 1 1) [UInt8.ofNat kind.toNat] := Own.byte1 w2 (UInt8.ofNat kind.toNat) kind hkbh.out (Nat.le_refl _); have cv := conv_str _ _ _ (O3.slc byEnc_len); have A3 := hAh.out _ hb3; have y3c0 := A3.at 0 rfl; have y3c1 := A3.at 1 rfl; have y3c2 := A3.at 2 rfl; have y3c3 := A3.at 3 rfl; have y3c4 := A3.at 4 rfl; have y3c5 := A3.at 5 rfl; have y3c6 := A3.at 6 rfl; have y3c7 := A3.at 7 rfl) | (go_at_call 18; (with_reducible refine (etext_any _ _ [UInt8.ofNat kind.toNat] name (O3.slc byEnc_len) (by have := hnl.out; omega) (by have h8 : ([UInt8.ofNat kind.toNat] : List UInt8).length = 1 := rfl; omega)).mono ?_); rintro e w4 ⟨r4, rfl, O4, hB4⟩; have hb4 := hb3.trans (hB4.mono hb3.size); have O4 := O4.rebase (b' := w2.heap.size) (fun i hi => Nat.le_trans hb3.size (O4.ge hi)); obtain ⟨M4, hM4⟩ : ∃ M, [UInt8.ofNat kind.toNat] ++ sT name = M := ⟨_, rfl⟩; have hM4h := Lib.hid hM4; have hM4l := Lib.hid (show M4.length ≤ 42 by rw [← hM4, List.length_append]; have h8 : ([UInt8.ofNat kind.toNat] : List UInt8).length = 1 := rfl; have h9 := hnl.out; rw [sT_len]; omega); rw [hM4] at O4; clear hM4; obtain ⟨ra4, rc4, rfl⟩ := own_lenB O4; clear cv; have cv := conv_str _ _ _ (O4.slc byEnc_len); clear y3c0 y3c1 y3c2 y3c3 y3c4 y3c5 y3c6 y3c7; have A4 := hAh.out _ hb4; have y4c0 := A4.at 0 rfl; have y4c1 := A4.at 1 rfl; have y4c2 := A4.at 2 rfl; have y4c3 := A4.at 3 rfl; have y4c4 := A4.at 4 rfl; have y4c5 := A4.at 5 rfl; have y4c6 := A4.at 6 rfl; have y4c7 := A4.at 7 rfl))
    have hfin := Lib.hid (show M4 = ex.bytes by rw [hbytes.out, ← hM4h.out]; simp only [List.append_assoc, List.append_nil, List.nil_append, List.cons_append])
    go_ret2
    exact ⟨by show _ = Ending.returned (.tuple #[.string ⟨ex.bytes.toArray⟩, .int .i64 0]); rw [← hfin.out]; rfl, hT2.trans (hb4.mono hT2.size)⟩
  · have nN : uN kind = true := by unfold uN; rw [h]; rfl
    have nM : uM kind = true := by unfold uM; rw [h]; rfl
    have nX : uX kind = false := by unfold uX; rw [h]; rfl
    have nW : uW kind = false := by unfold uW; rw [h]; rfl
    rw [show (us kind % 2 == 1) = true from nN] at b1
    rw [show (us kind / 2 % 2 == 1) = true from nM] at b2
    rw [show (us kind / 4 % 2 == 1) = false from nX] at b4
    rw [show (us kind / 8 % 2 == 1) = false from nW] at b8
    rw [nN] at k1; rw [nM] at k2; rw [nX] at k3
    have hbytes := Lib.hid (show ex.bytes = [UInt8.ofNat kind.toNat] ++ (sT name ++ (be 8 n.toNat ++ (([] : List UInt8) ++ ([] : List UInt8)))) by
      rw [← hexh.out]; unfold EnT.e En.bytes; simp only [nN, nM, nX, nW, List.length_map, flat_map, Bool.false_eq_true, if_false, if_true, List.singleton_append])
    obtain ⟨u, hue⟩ : ∃ u, us kind = u := ⟨_, rfl⟩
    rw [hue] at b1 b2 b4 b8
    have hue := Lib.hid hue
    have hnl := Lib.hid (show name.size ≤ 40 from qn_le (by simpa using k1))
    clear k0 k1 k2 k3 k4 k5 nN nM nX nW h
    go_enter Tryz.func8, Tryz.ntmps8
    go_wp2_with (first | (go_at_call 10; (with_reducible refine (hchh.out).mono ?_); rintro e w2 ⟨rfl, hB2⟩; have hT2 := hB1.trans (hB2.mono hB1.size); have hAh := Lib.hid (fun (v : World) (h : Below w2.heap.size w2 v) => (A1.pure hB2).pure h); have hRh := Lib.hid (fun (v : World) (h : Below w2.heap.size w2 v) => (R1.pure hB2).pure h); have hTh := Lib.hid (fun (v : World) (h : Below w2.heap.size w2 v) => hT.pure (hT2.trans (h.mono hT2.size))); have hb2 := Below.refl w2.heap.size w2; clear a0 a1 a2 a3 a4 a5 a6 a7; have A2 := hAh.out _ hb2; have y2c0 := A2.at 0 rfl; have y2c1 := A2.at 1 rfl; have y2c2 := A2.at 2 rfl; have y2c3 := A2.at 3 rfl; have y2c4 := A2.at 4 rfl; have y2c5 := A2.at 5 rfl; have y2c6 := A2.at 6 rfl; have y2c7 := A2.at 7 rfl) | (go_at_call 17; (with_reducible refine (hus _ _).mono ?_); rintro e _ ⟨he, rfl⟩; rw [hue.out] at he; subst he; have hb3 := hb2.alloc hb2.size (.cells #[.int .u8 kind] 5); have O3 : Own w2.heap.size 5 1 byEnc (w2.alloc (.cells #[.int .u8 kind] 5)) (.slice (some ⟨w2.heap.size, 0, none⟩) 1 1) [UInt8.ofNat kind.toNat] := Own.byte1 w2 (UInt8.ofNat kind.toNat) kind hkbh.out (Nat.le_refl _); have cv := conv_str _ _ _ (O3.slc byEnc_len); have A3 := hAh.out _ hb3; have y3c0 := A3.at 0 rfl; have y3c1 := A3.at 1 rfl; have y3c2 := A3.at 2 rfl; have y3c3 := A3.at 3 rfl; have y3c4 := A3.at 4 rfl; have y3c5 := A3.at 5 rfl; have y3c6 := A3.at 6 rfl; have y3c7 := A3.at 7 rfl) | (go_at_call 18; (with_reducible refine (etext_any _ _ [UInt8.ofNat kind.toNat] name (O3.slc byEnc_len) (by have := hnl.out; omega) (by have h8 : ([UInt8.ofNat kind.toNat] : List UInt8).length = 1 := rfl; omega)).mono ?_); rintro e w4 ⟨r4, rfl, O4, hB4⟩; have hb4 := hb3.trans (hB4.mono hb3.size); have O4 := O4.rebase (b' := w2.heap.size) (fun i hi => Nat.le_trans hb3.size (O4.ge hi)); obtain ⟨M4, hM4⟩ : ∃ M, [UInt8.ofNat kind.toNat] ++ sT name = M := ⟨_, rfl⟩; have hM4h := Lib.hid hM4; have hM4l := Lib.hid (show M4.length ≤ 42 by rw [← hM4, List.length_append]; have h8 : ([UInt8.ofNat kind.toNat] : List UInt8).length = 1 := rfl; have h9 := hnl.out; rw [sT_len]; omega); rw [hM4] at O4; clear hM4; obtain ⟨ra4, rc4, rfl⟩ := own_lenB O4; clear cv; have cv := conv_str _ _ _ (O4.slc byEnc_len); clear y3c0 y3c1 y3c2 y3c3 y3c4 y3c5 y3c6 y3c7; have A4 := hAh.out _ hb4; have y4c0 := A4.at 0 rfl; have y4c1 := A4.at 1 rfl; have y4c2 := A4.at 2 rfl; have y4c3 := A4.at 3 rfl; have y4c4 := A4.at 4 rfl; have y4c5 := A4.at 5 rfl; have y4c6 := A4.at 6 rfl; have y4c7 := A4.at 7 rfl) | (go_at_call 19; (with_reducible refine (oput8 _ _ M4 n (O4.slc byEnc_len) wn0 (by have h8 := hM4l.out; omega)).mono ?_); rintro e w5 ⟨r5, rfl, O5, hB5⟩; have hb5 := hb4.trans (hB5.mono hb4.size); have O5 := O5.rebase (b' := w2.heap.size) (fun i hi => Nat.le_trans hb4.size (O5.ge hi)); obtain ⟨M5, hM5⟩ : ∃ M, M4 ++ be 8 n.toNat = M := ⟨_, rfl⟩; have hM5h := Lib.hid hM5; have hM5l := Lib.hid (show M5.length ≤ 50 by rw [← hM5, List.length_append]; have h8 := hM4l.out; rw [be_len]; omega); rw [hM5] at O5; clear hM5; obtain ⟨ra5, rc5, rfl⟩ := own_lenB O5; clear cv; have cv := conv_str _ _ _ (O5.slc byEnc_len); clear y4c0 y4c1 y4c2 y4c3 y4c4 y4c5 y4c6 y4c7; have A5 := hAh.out _ hb5; have y5c0 := A5.at 0 rfl; have y5c1 := A5.at 1 rfl; have y5c2 := A5.at 2 rfl; have y5c3 := A5.at 3 rfl; have y5c4 := A5.at 4 rfl; have y5c5 := A5.at 5 rfl; have y5c6 := A5.at 6 rfl; have y5c7 := A5.at 7 rfl))
    have hfin := Lib.hid (show M5 = ex.bytes by rw [hbytes.out, ← hM5h.out, ← hM4h.out]; simp only [List.append_assoc, List.append_nil, List.nil_append, List.cons_append])
    go_ret2
    exact ⟨by show _ = Ending.returned (.tuple #[.string ⟨ex.bytes.toArray⟩, .int .i64 0]); rw [← hfin.out]; rfl, hT2.trans (hb5.mono hT2.size)⟩
  · have nN : uN kind = false := by unfold uN; rw [h]; rfl
    have nM : uM kind = false := by unfold uM; rw [h]; rfl
    have nX : uX kind = true := by unfold uX; rw [h]; rfl
    have nW : uW kind = false := by unfold uW; rw [h]; rfl
    rw [show (us kind % 2 == 1) = false from nN] at b1
    rw [show (us kind / 2 % 2 == 1) = false from nM] at b2
    rw [show (us kind / 4 % 2 == 1) = true from nX] at b4
    rw [show (us kind / 8 % 2 == 1) = false from nW] at b8
    rw [nN] at k1; rw [nM] at k2; rw [nX] at k3
    have hbytes := Lib.hid (show ex.bytes = [UInt8.ofNat kind.toNat] ++ (([] : List UInt8) ++ (([] : List UInt8) ++ (Xn.bytes (xf, xg, xb) ++ ([] : List UInt8)))) by
      rw [← hexh.out]; unfold EnT.e En.bytes; simp only [nN, nM, nX, nW, List.length_map, flat_map, Bool.false_eq_true, if_false, if_true, List.singleton_append])
    obtain ⟨u, hue⟩ : ∃ u, us kind = u := ⟨_, rfl⟩
    rw [hue] at b1 b2 b4 b8
    have hue := Lib.hid hue
    have hxo := Lib.hid (show Xn.okB (xf, xg, xb) = true by simpa using k3)
    have hxl := Lib.hid (show (Xn.bytes (xf, xg, xb)).length ≤ 140 by have h5 := hxo.out; unfold Xn.okB at h5; simp only [Bool.and_eq_true, decide_eq_true_eq] at h5; rw [xbytes_len]; have h6 := h5.1.2; have h7 := h5.2; show 6 + xg.size + xb.size ≤ 140; have h6 : xg.size ≤ 64 := h6; have h7 : xb.size ≤ 64 := h7; omega)
    clear k0 k1 k2 k3 k4 k5 nN nM nX nW h
    go_enter Tryz.func8, Tryz.ntmps8
    go_wp2_with (first | (go_at_call 10; (with_reducible refine (hchh.out).mono ?_); rintro e w2 ⟨rfl, hB2⟩; have hT2 := hB1.trans (hB2.mono hB1.size); have hAh := Lib.hid (fun (v : World) (h : Below w2.heap.size w2 v) => (A1.pure hB2).pure h); have hRh := Lib.hid (fun (v : World) (h : Below w2.heap.size w2 v) => (R1.pure hB2).pure h); have hTh := Lib.hid (fun (v : World) (h : Below w2.heap.size w2 v) => hT.pure (hT2.trans (h.mono hT2.size))); have hb2 := Below.refl w2.heap.size w2; clear a0 a1 a2 a3 a4 a5 a6 a7; have A2 := hAh.out _ hb2; have y2c0 := A2.at 0 rfl; have y2c1 := A2.at 1 rfl; have y2c2 := A2.at 2 rfl; have y2c3 := A2.at 3 rfl; have y2c4 := A2.at 4 rfl; have y2c5 := A2.at 5 rfl; have y2c6 := A2.at 6 rfl; have y2c7 := A2.at 7 rfl) | (go_at_call 17; (with_reducible refine (hus _ _).mono ?_); rintro e _ ⟨he, rfl⟩; rw [hue.out] at he; subst he; have hb3 := hb2.alloc hb2.size (.cells #[.int .u8 kind] 5); have O3 : Own w2.heap.size 5 1 byEnc (w2.alloc (.cells #[.int .u8 kind] 5)) (.slice (some ⟨w2.heap.size, 0, none⟩) 1 1) [UInt8.ofNat kind.toNat] := Own.byte1 w2 (UInt8.ofNat kind.toNat) kind hkbh.out (Nat.le_refl _); have cv := conv_str _ _ _ (O3.slc byEnc_len); have A3 := hAh.out _ hb3; have y3c0 := A3.at 0 rfl; have y3c1 := A3.at 1 rfl; have y3c2 := A3.at 2 rfl; have y3c3 := A3.at 3 rfl; have y3c4 := A3.at 4 rfl; have y3c5 := A3.at 5 rfl; have y3c6 := A3.at 6 rfl; have y3c7 := A3.at 7 rfl) | (go_at_call 20; (with_reducible refine (xput_any _ xf xg xb hxo.out wx0 wx1.out).mono ?_); rintro e w4 ⟨rx, rfl, X4, hB4⟩; have hb4 := hb3.trans (hB4.mono hb3.size); have O4 := O3.pure hB4; obtain ⟨xl, hxe⟩ : ∃ l, Xn.bytes (xf, xg, xb) = l := ⟨_, rfl⟩; have hxeh := Lib.hid hxe; have hxll := Lib.hid (show xl.length ≤ 140 by rw [← hxe]; exact hxl.out); rw [hxe] at X4; clear hxe; obtain ⟨xa0, xc0, rfl⟩ := own_lenB X4; clear y3c0 y3c1 y3c2 y3c3 y3c4 y3c5 y3c6 y3c7; have A4 := hAh.out _ hb4; have y4c0 := A4.at 0 rfl; have y4c1 := A4.at 1 rfl; have y4c2 := A4.at 2 rfl; have y4c3 := A4.at 3 rfl; have y4c4 := A4.at 4 rfl; have y4c5 := A4.at 5 rfl; have y4c6 := A4.at 6 rfl; have y4c7 := A4.at 7 rfl) | (at_builtin; refine wpList_app (base := w2.heap.size) rfl (.tmp 40) (.tmp 41) 50 5 rfl elem_by byEnc_len byEnc_one _ [UInt8.ofNat kind.toNat] rfl O4 _ xl rfl (X4.slc byEnc_len) (by have h7 := hxll.out; have h8 : ([UInt8.ofNat kind.toNat] : List UInt8).length = 1 := rfl; unfold maxLen; omega) (by have h7 := hxll.out; have h8 : ([UInt8.ofNat kind.toNat] : List UInt8).length = 1 := rfl; omega) hb4.size ?_; intro v5 w5 O5 hgr5 hfr5 hsh5; have hb5 := hb4.grown hgr5 hb4.size (fun i e => O4.ge e); obtain ⟨M5, hM5⟩ : ∃ M, [UInt8.ofNat kind.toNat] ++ xl = M := ⟨_, rfl⟩; have hM5h := Lib.hid hM5; have hM5l := Lib.hid (show M5.length ≤ 141 by rw [← hM5, List.length_append]; have h8 : ([UInt8.ofNat kind.toNat] : List UInt8).length = 1 := rfl; have h7 := hxll.out; omega); rw [hM5] at O5; clear hM5; obtain ⟨ra5, rc5, rfl⟩ := own_lenB O5; clear cv; have cv := conv_str _ _ _ (O5.slc byEnc_len); clear y4c0 y4c1 y4c2 y4c3 y4c4 y4c5 y4c6 y4c7; have A5 := hAh.out _ hb5; have y5c0 := A5.at 0 rfl; have y5c1 := A5.at 1 rfl; have y5c2 := A5.at 2 rfl; have y5c3 := A5.at 3 rfl; have y5c4 := A5.at 4 rfl; have y5c5 := A5.at 5 rfl; have y5c6 := A5.at 6 rfl; have y5c7 := A5.at 7 rfl))
    have hfin := Lib.hid (show M5 = ex.bytes by rw [hbytes.out, ← hM5h.out, hxeh.out]; simp only [List.append_assoc, List.append_nil, List.nil_append, List.cons_append])
    go_ret2
    exact ⟨by show _ = Ending.returned (.tuple #[.string ⟨ex.bytes.toArray⟩, .int .i64 0]); rw [← hfin.out]; rfl, hT2.trans (hb5.mono hT2.size)⟩
  · have nN : uN kind = false := by unfold uN; rw [h]; rfl
    have nM : uM kind = true := by unfold uM; rw [h]; rfl
    have nX : uX kind = true := by unfold uX; rw [h]; rfl
    have nW : uW kind = false := by unfold uW; rw [h]; rfl
    rw [show (us kind % 2 == 1) = false from nN] at b1
    rw [show (us kind / 2 % 2 == 1) = true from nM] at b2
    rw [show (us kind / 4 % 2 == 1) = true from nX] at b4
    rw [show (us kind / 8 % 2 == 1) = false from nW] at b8
    rw [nN] at k1; rw [nM] at k2; rw [nX] at k3
    have hbytes := Lib.hid (show ex.bytes = [UInt8.ofNat kind.toNat] ++ (([] : List UInt8) ++ (be 8 n.toNat ++ (Xn.bytes (xf, xg, xb) ++ ([] : List UInt8)))) by
      rw [← hexh.out]; unfold EnT.e En.bytes; simp only [nN, nM, nX, nW, List.length_map, flat_map, Bool.false_eq_true, if_false, if_true, List.singleton_append])
    obtain ⟨u, hue⟩ : ∃ u, us kind = u := ⟨_, rfl⟩
    rw [hue] at b1 b2 b4 b8
    have hue := Lib.hid hue
    have hxo := Lib.hid (show Xn.okB (xf, xg, xb) = true by simpa using k3)
    have hxl := Lib.hid (show (Xn.bytes (xf, xg, xb)).length ≤ 140 by have h5 := hxo.out; unfold Xn.okB at h5; simp only [Bool.and_eq_true, decide_eq_true_eq] at h5; rw [xbytes_len]; have h6 := h5.1.2; have h7 := h5.2; show 6 + xg.size + xb.size ≤ 140; have h6 : xg.size ≤ 64 := h6; have h7 : xb.size ≤ 64 := h7; omega)
    clear k0 k1 k2 k3 k4 k5 nN nM nX nW h
    go_enter Tryz.func8, Tryz.ntmps8
    go_wp2_with (first | (go_at_call 10; (with_reducible refine (hchh.out).mono ?_); rintro e w2 ⟨rfl, hB2⟩; have hT2 := hB1.trans (hB2.mono hB1.size); have hAh := Lib.hid (fun (v : World) (h : Below w2.heap.size w2 v) => (A1.pure hB2).pure h); have hRh := Lib.hid (fun (v : World) (h : Below w2.heap.size w2 v) => (R1.pure hB2).pure h); have hTh := Lib.hid (fun (v : World) (h : Below w2.heap.size w2 v) => hT.pure (hT2.trans (h.mono hT2.size))); have hb2 := Below.refl w2.heap.size w2; clear a0 a1 a2 a3 a4 a5 a6 a7; have A2 := hAh.out _ hb2; have y2c0 := A2.at 0 rfl; have y2c1 := A2.at 1 rfl; have y2c2 := A2.at 2 rfl; have y2c3 := A2.at 3 rfl; have y2c4 := A2.at 4 rfl; have y2c5 := A2.at 5 rfl; have y2c6 := A2.at 6 rfl; have y2c7 := A2.at 7 rfl) | (go_at_call 17; (with_reducible refine (hus _ _).mono ?_); rintro e _ ⟨he, rfl⟩; rw [hue.out] at he; subst he; have hb3 := hb2.alloc hb2.size (.cells #[.int .u8 kind] 5); have O3 : Own w2.heap.size 5 1 byEnc (w2.alloc (.cells #[.int .u8 kind] 5)) (.slice (some ⟨w2.heap.size, 0, none⟩) 1 1) [UInt8.ofNat kind.toNat] := Own.byte1 w2 (UInt8.ofNat kind.toNat) kind hkbh.out (Nat.le_refl _); have cv := conv_str _ _ _ (O3.slc byEnc_len); have A3 := hAh.out _ hb3; have y3c0 := A3.at 0 rfl; have y3c1 := A3.at 1 rfl; have y3c2 := A3.at 2 rfl; have y3c3 := A3.at 3 rfl; have y3c4 := A3.at 4 rfl; have y3c5 := A3.at 5 rfl; have y3c6 := A3.at 6 rfl; have y3c7 := A3.at 7 rfl) | (go_at_call 19; (with_reducible refine (oput8 _ _ [UInt8.ofNat kind.toNat] n (O3.slc byEnc_len) wn0 (by have h8 : ([UInt8.ofNat kind.toNat] : List UInt8).length = 1 := rfl; omega)).mono ?_); rintro e w4 ⟨r4, rfl, O4, hB4⟩; have hb4 := hb3.trans (hB4.mono hb3.size); have O4 := O4.rebase (b' := w2.heap.size) (fun i hi => Nat.le_trans hb3.size (O4.ge hi)); obtain ⟨M4, hM4⟩ : ∃ M, [UInt8.ofNat kind.toNat] ++ be 8 n.toNat = M := ⟨_, rfl⟩; have hM4h := Lib.hid hM4; have hM4l := Lib.hid (show M4.length ≤ 9 by rw [← hM4, List.length_append]; have h8 : ([UInt8.ofNat kind.toNat] : List UInt8).length = 1 := rfl; rw [be_len]; omega); rw [hM4] at O4; clear hM4; obtain ⟨ra4, rc4, rfl⟩ := own_lenB O4; clear cv; have cv := conv_str _ _ _ (O4.slc byEnc_len); clear y3c0 y3c1 y3c2 y3c3 y3c4 y3c5 y3c6 y3c7; have A4 := hAh.out _ hb4; have y4c0 := A4.at 0 rfl; have y4c1 := A4.at 1 rfl; have y4c2 := A4.at 2 rfl; have y4c3 := A4.at 3 rfl; have y4c4 := A4.at 4 rfl; have y4c5 := A4.at 5 rfl; have y4c6 := A4.at 6 rfl; have y4c7 := A4.at 7 rfl) | (go_at_call 20; (with_reducible refine (xput_any _ xf xg xb hxo.out wx0 wx1.out).mono ?_); rintro e w5 ⟨rx, rfl, X5, hB5⟩; have hb5 := hb4.trans (hB5.mono hb4.size); have O5 := O4.pure hB5; obtain ⟨xl, hxe⟩ : ∃ l, Xn.bytes (xf, xg, xb) = l := ⟨_, rfl⟩; have hxeh := Lib.hid hxe; have hxll := Lib.hid (show xl.length ≤ 140 by rw [← hxe]; exact hxl.out); rw [hxe] at X5; clear hxe; obtain ⟨xa0, xc0, rfl⟩ := own_lenB X5; clear y4c0 y4c1 y4c2 y4c3 y4c4 y4c5 y4c6 y4c7; have A5 := hAh.out _ hb5; have y5c0 := A5.at 0 rfl; have y5c1 := A5.at 1 rfl; have y5c2 := A5.at 2 rfl; have y5c3 := A5.at 3 rfl; have y5c4 := A5.at 4 rfl; have y5c5 := A5.at 5 rfl; have y5c6 := A5.at 6 rfl; have y5c7 := A5.at 7 rfl) | (at_builtin; refine wpList_app (base := w2.heap.size) rfl (.tmp 40) (.tmp 41) 50 5 rfl elem_by byEnc_len byEnc_one _ M4 rfl O5 _ xl rfl (X5.slc byEnc_len) (by have h7 := hxll.out; have h8 := hM4l.out; unfold maxLen; omega) (by have h7 := hxll.out; have h8 := hM4l.out; omega) hb5.size ?_; intro v6 w6 O6 hgr6 hfr6 hsh6; have hb6 := hb5.grown hgr6 hb5.size (fun i e => O5.ge e); obtain ⟨M6, hM6⟩ : ∃ M, M4 ++ xl = M := ⟨_, rfl⟩; have hM6h := Lib.hid hM6; have hM6l := Lib.hid (show M6.length ≤ 149 by rw [← hM6, List.length_append]; have h8 := hM4l.out; have h7 := hxll.out; omega); rw [hM6] at O6; clear hM6; obtain ⟨ra6, rc6, rfl⟩ := own_lenB O6; clear cv; have cv := conv_str _ _ _ (O6.slc byEnc_len); clear y5c0 y5c1 y5c2 y5c3 y5c4 y5c5 y5c6 y5c7; have A6 := hAh.out _ hb6; have y6c0 := A6.at 0 rfl; have y6c1 := A6.at 1 rfl; have y6c2 := A6.at 2 rfl; have y6c3 := A6.at 3 rfl; have y6c4 := A6.at 4 rfl; have y6c5 := A6.at 5 rfl; have y6c6 := A6.at 6 rfl; have y6c7 := A6.at 7 rfl))
    have hfin := Lib.hid (show M6 = ex.bytes by rw [hbytes.out, ← hM6h.out, ← hM4h.out, hxeh.out]; simp only [List.append_assoc, List.append_nil, List.nil_append, List.cons_append])
    go_ret2
    exact ⟨by show _ = Ending.returned (.tuple #[.string ⟨ex.bytes.toArray⟩, .int .i64 0]); rw [← hfin.out]; rfl, hT2.trans (hb6.mono hT2.size)⟩
  · have nN : uN kind = false := by unfold uN; rw [h]; rfl
    have nM : uM kind = false := by unfold uM; rw [h]; rfl
    have nX : uX kind = false := by unfold uX; rw [h]; rfl
    have nW : uW kind = true := by unfold uW; rw [h]; rfl
    rw [show (us kind % 2 == 1) = false from nN] at b1
    rw [show (us kind / 2 % 2 == 1) = false from nM] at b2
    rw [show (us kind / 4 % 2 == 1) = false from nX] at b4
    rw [show (us kind / 8 % 2 == 1) = true from nW] at b8
    rw [nN] at k1; rw [nM] at k2; rw [nX] at k3
    have hbytes := Lib.hid (show ex.bytes = [UInt8.ofNat kind.toNat] ++ (([] : List UInt8) ++ (([] : List UInt8) ++ (([] : List UInt8) ++ UInt8.ofNat puts.length :: (puts.flatMap (fun x : PtT => x.p.bytes) ++ UInt8.ofNat takes.length :: takes.flatMap Rf.bytes)))) by
      rw [← hexh.out]; unfold EnT.e En.bytes; simp only [nN, nM, nX, nW, List.length_map, flat_map, Bool.false_eq_true, if_false, if_true, List.singleton_append])
    obtain ⟨u, hue⟩ : ∃ u, us kind = u := ⟨_, rfl⟩
    rw [hue] at b1 b2 b4 b8
    have hue := Lib.hid hue
    unfold EnT.wk at k5
    simp only [Bool.and_eq_true, decide_eq_true_eq, List.all_eq_true] at k5
    have hpn := Lib.hid (show puts.length ≤ 100 from k5.1.1.1)
    have htn := Lib.hid (show takes.length ≤ 100 from k5.1.1.2)
    have hpf := Lib.hid (show ∀ x ∈ puts, x.p.Fit from fun x hx => Pt.fit (k5.1.2 x hx) (hwfh.out.p x.p (List.mem_map_of_mem hx)).1 (hwfh.out.p x.p (List.mem_map_of_mem hx)).2.1)
    have hpl9 := Lib.hid (show (puts.flatMap (fun x : PtT => x.p.bytes)).length ≤ 1270000 by have h9 := flat_le (fun x : PtT => x.p.bytes) 12700 puts (fun x hx => (hpf.out x hx).len); have h8 := hpn.out; have h7 := Nat.mul_le_mul_right 12700 h8; omega)
    have htf := Lib.hid (show ∀ x ∈ takes, x.q.size ≤ 255 ∧ 0 ≤ x.id from fun x hx => ⟨by have h9 := k5.2 x hx; unfold Rf.okB at h9; simp only [Bool.and_eq_true] at h9; have := qn_le h9.1; omega, (hwfh.out.t x hx).1⟩)
    have htl9 := Lib.hid (show (takes.flatMap Rf.bytes).length ≤ 1270000 by have h9 := flat_le Rf.bytes 12700 takes (fun x hx => by have h1 := (htf.out x hx).1; unfold Rf.bytes; rw [List.length_append, sT_len, be_len]; omega); have h8 := htn.out; have h7 := Nat.mul_le_mul_right 12700 h8; omega)
    clear k0 k1 k2 k3 k4 k5 nN nM nX nW h
    go_enter Tryz.func8, Tryz.ntmps8
    go_wp2_with (first | (go_at_call 10; (with_reducible refine (hchh.out).mono ?_); rintro e w2 ⟨rfl, hB2⟩; have hT2 := hB1.trans (hB2.mono hB1.size); have hAh := Lib.hid (fun (v : World) (h : Below w2.heap.size w2 v) => (A1.pure hB2).pure h); have hRh := Lib.hid (fun (v : World) (h : Below w2.heap.size w2 v) => (R1.pure hB2).pure h); have hTh := Lib.hid (fun (v : World) (h : Below w2.heap.size w2 v) => hT.pure (hT2.trans (h.mono hT2.size))); have hb2 := Below.refl w2.heap.size w2; clear a0 a1 a2 a3 a4 a5 a6 a7; have A2 := hAh.out _ hb2; have y2c0 := A2.at 0 rfl; have y2c1 := A2.at 1 rfl; have y2c2 := A2.at 2 rfl; have y2c3 := A2.at 3 rfl; have y2c4 := A2.at 4 rfl; have y2c5 := A2.at 5 rfl; have y2c6 := A2.at 6 rfl; have y2c7 := A2.at 7 rfl) | (go_at_call 17; (with_reducible refine (hus _ _).mono ?_); rintro e _ ⟨he, rfl⟩; rw [hue.out] at he; subst he; have hb3 := hb2.alloc hb2.size (.cells #[.int .u8 kind] 5); have O3 : Own w2.heap.size 5 1 byEnc (w2.alloc (.cells #[.int .u8 kind] 5)) (.slice (some ⟨w2.heap.size, 0, none⟩) 1 1) [UInt8.ofNat kind.toNat] := Own.byte1 w2 (UInt8.ofNat kind.toNat) kind hkbh.out (Nat.le_refl _); have cv := conv_str _ _ _ (O3.slc byEnc_len); have A3 := hAh.out _ hb3; have y3c0 := A3.at 0 rfl; have y3c1 := A3.at 1 rfl; have y3c2 := A3.at 2 rfl; have y3c3 := A3.at 3 rfl; have y3c4 := A3.at 4 rfl; have y3c5 := A3.at 5 rfl; have y3c6 := A3.at 6 rfl; have y3c7 := A3.at 7 rfl) | (go_at_call 21; (with_reducible refine (putall1_any _ _ [UInt8.ofNat kind.toNat] pa pc puts P (O3.slc byEnc_len) (by have h8 : ([UInt8.ofNat kind.toNat] : List UInt8).length = 1 := rfl; omega) (show Slc ptEnc 12 _ (.slice pa puts.length pc) puts from (hRh.out _ hb3).p) hpn.out (show ∀ x ∈ puts, Rd P _ x.pr.app from (hRh.out _ hb3).r) hpf.out (hTh.out _ hb3)).mono ?_); rintro e w4 ⟨r4, rfl, O4, hB4⟩; have hb4 := hb3.trans (hB4.mono hb3.size); have O4 := O4.rebase (b' := w2.heap.size) (fun i hi => Nat.le_trans hb3.size (O4.ge hi)); obtain ⟨M4, hM4⟩ : ∃ M, [UInt8.ofNat kind.toNat] ++ UInt8.ofNat puts.length :: puts.flatMap (fun x : PtT => x.p.bytes) = M := ⟨_, rfl⟩; have hM4h := Lib.hid hM4; have hM4l := Lib.hid (show M4.length ≤ 1270101 by rw [← hM4, List.length_append]; have h8 : ([UInt8.ofNat kind.toNat] : List UInt8).length = 1 := rfl; have h9 := hpl9.out; simp only [List.length_cons, List.length_nil]; omega); rw [hM4] at O4; clear hM4; obtain ⟨ra4, rc4, rfl⟩ := own_lenB O4; clear cv; have cv := conv_str _ _ _ (O4.slc byEnc_len); clear y3c0 y3c1 y3c2 y3c3 y3c4 y3c5 y3c6 y3c7; have A4 := hAh.out _ hb4; have y4c0 := A4.at 0 rfl; have y4c1 := A4.at 1 rfl; have y4c2 := A4.at 2 rfl; have y4c3 := A4.at 3 rfl; have y4c4 := A4.at 4 rfl; have y4c5 := A4.at 5 rfl; have y4c6 := A4.at 6 rfl; have y4c7 := A4.at 7 rfl) | (go_at_call 25; (with_reducible refine (putall2_any _ _ M4 ta tc takes P (O4.slc byEnc_len) (by have h8 := hM4l.out; omega) (show Slc rfEnc 2 _ (.slice ta takes.length tc) takes from (hRh.out _ hb4).s) htn.out htf.out (hTh.out _ hb4)).mono ?_); rintro e w5 ⟨r5, rfl, O5, hB5⟩; have hb5 := hb4.trans (hB5.mono hb4.size); have O5 := O5.rebase (b' := w2.heap.size) (fun i hi => Nat.le_trans hb4.size (O5.ge hi)); obtain ⟨M5, hM5⟩ : ∃ M, M4 ++ UInt8.ofNat takes.length :: takes.flatMap Rf.bytes = M := ⟨_, rfl⟩; have hM5h := Lib.hid hM5; have hM5l := Lib.hid (show M5.length ≤ 2540201 by rw [← hM5, List.length_append]; have h8 := hM4l.out; have h9 := htl9.out; simp only [List.length_cons, List.length_nil]; omega); rw [hM5] at O5; clear hM5; obtain ⟨ra5, rc5, rfl⟩ := own_lenB O5; clear cv; have cv := conv_str _ _ _ (O5.slc byEnc_len); clear y4c0 y4c1 y4c2 y4c3 y4c4 y4c5 y4c6 y4c7; have A5 := hAh.out _ hb5; have y5c0 := A5.at 0 rfl; have y5c1 := A5.at 1 rfl; have y5c2 := A5.at 2 rfl; have y5c3 := A5.at 3 rfl; have y5c4 := A5.at 4 rfl; have y5c5 := A5.at 5 rfl; have y5c6 := A5.at 6 rfl; have y5c7 := A5.at 7 rfl))
    have hfin := Lib.hid (show M5 = ex.bytes by rw [hbytes.out, ← hM5h.out, ← hM4h.out]; simp only [List.append_assoc, List.append_nil, List.nil_append, List.cons_append])
    go_ret2
    exact ⟨by show _ = Ending.returned (.tuple #[.string ⟨ex.bytes.toArray⟩, .int .i64 0]); rw [← hfin.out]; rfl, hT2.trans (hb5.mono hT2.size)⟩
  · have nN : uN kind = false := by unfold uN; rw [h]; rfl
    have nM : uM kind = false := by unfold uM; rw [h]; rfl
    have nX : uX kind = true := by unfold uX; rw [h]; rfl
    have nW : uW kind = true := by unfold uW; rw [h]; rfl
    rw [show (us kind % 2 == 1) = false from nN] at b1
    rw [show (us kind / 2 % 2 == 1) = false from nM] at b2
    rw [show (us kind / 4 % 2 == 1) = true from nX] at b4
    rw [show (us kind / 8 % 2 == 1) = true from nW] at b8
    rw [nN] at k1; rw [nM] at k2; rw [nX] at k3
    have hbytes := Lib.hid (show ex.bytes = [UInt8.ofNat kind.toNat] ++ (([] : List UInt8) ++ (([] : List UInt8) ++ (Xn.bytes (xf, xg, xb) ++ UInt8.ofNat puts.length :: (puts.flatMap (fun x : PtT => x.p.bytes) ++ UInt8.ofNat takes.length :: takes.flatMap Rf.bytes)))) by
      rw [← hexh.out]; unfold EnT.e En.bytes; simp only [nN, nM, nX, nW, List.length_map, flat_map, Bool.false_eq_true, if_false, if_true, List.singleton_append])
    obtain ⟨u, hue⟩ : ∃ u, us kind = u := ⟨_, rfl⟩
    rw [hue] at b1 b2 b4 b8
    have hue := Lib.hid hue
    have hxo := Lib.hid (show Xn.okB (xf, xg, xb) = true by simpa using k3)
    have hxl := Lib.hid (show (Xn.bytes (xf, xg, xb)).length ≤ 140 by have h5 := hxo.out; unfold Xn.okB at h5; simp only [Bool.and_eq_true, decide_eq_true_eq] at h5; rw [xbytes_len]; have h6 := h5.1.2; have h7 := h5.2; show 6 + xg.size + xb.size ≤ 140; have h6 : xg.size ≤ 64 := h6; have h7 : xb.size ≤ 64 := h7; omega)
    unfold EnT.wk at k5
    simp only [Bool.and_eq_true, decide_eq_true_eq, List.all_eq_true] at k5
    have hpn := Lib.hid (show puts.length ≤ 100 from k5.1.1.1)
    have htn := Lib.hid (show takes.length ≤ 100 from k5.1.1.2)
    have hpf := Lib.hid (show ∀ x ∈ puts, x.p.Fit from fun x hx => Pt.fit (k5.1.2 x hx) (hwfh.out.p x.p (List.mem_map_of_mem hx)).1 (hwfh.out.p x.p (List.mem_map_of_mem hx)).2.1)
    have hpl9 := Lib.hid (show (puts.flatMap (fun x : PtT => x.p.bytes)).length ≤ 1270000 by have h9 := flat_le (fun x : PtT => x.p.bytes) 12700 puts (fun x hx => (hpf.out x hx).len); have h8 := hpn.out; have h7 := Nat.mul_le_mul_right 12700 h8; omega)
    have htf := Lib.hid (show ∀ x ∈ takes, x.q.size ≤ 255 ∧ 0 ≤ x.id from fun x hx => ⟨by have h9 := k5.2 x hx; unfold Rf.okB at h9; simp only [Bool.and_eq_true] at h9; have := qn_le h9.1; omega, (hwfh.out.t x hx).1⟩)
    have htl9 := Lib.hid (show (takes.flatMap Rf.bytes).length ≤ 1270000 by have h9 := flat_le Rf.bytes 12700 takes (fun x hx => by have h1 := (htf.out x hx).1; unfold Rf.bytes; rw [List.length_append, sT_len, be_len]; omega); have h8 := htn.out; have h7 := Nat.mul_le_mul_right 12700 h8; omega)
    clear k0 k1 k2 k3 k4 k5 nN nM nX nW h
    go_enter Tryz.func8, Tryz.ntmps8
    go_wp2_with (first | (go_at_call 10; (with_reducible refine (hchh.out).mono ?_); rintro e w2 ⟨rfl, hB2⟩; have hT2 := hB1.trans (hB2.mono hB1.size); have hAh := Lib.hid (fun (v : World) (h : Below w2.heap.size w2 v) => (A1.pure hB2).pure h); have hRh := Lib.hid (fun (v : World) (h : Below w2.heap.size w2 v) => (R1.pure hB2).pure h); have hTh := Lib.hid (fun (v : World) (h : Below w2.heap.size w2 v) => hT.pure (hT2.trans (h.mono hT2.size))); have hb2 := Below.refl w2.heap.size w2; clear a0 a1 a2 a3 a4 a5 a6 a7; have A2 := hAh.out _ hb2; have y2c0 := A2.at 0 rfl; have y2c1 := A2.at 1 rfl; have y2c2 := A2.at 2 rfl; have y2c3 := A2.at 3 rfl; have y2c4 := A2.at 4 rfl; have y2c5 := A2.at 5 rfl; have y2c6 := A2.at 6 rfl; have y2c7 := A2.at 7 rfl) | (go_at_call 17; (with_reducible refine (hus _ _).mono ?_); rintro e _ ⟨he, rfl⟩; rw [hue.out] at he; subst he; have hb3 := hb2.alloc hb2.size (.cells #[.int .u8 kind] 5); have O3 : Own w2.heap.size 5 1 byEnc (w2.alloc (.cells #[.int .u8 kind] 5)) (.slice (some ⟨w2.heap.size, 0, none⟩) 1 1) [UInt8.ofNat kind.toNat] := Own.byte1 w2 (UInt8.ofNat kind.toNat) kind hkbh.out (Nat.le_refl _); have cv := conv_str _ _ _ (O3.slc byEnc_len); have A3 := hAh.out _ hb3; have y3c0 := A3.at 0 rfl; have y3c1 := A3.at 1 rfl; have y3c2 := A3.at 2 rfl; have y3c3 := A3.at 3 rfl; have y3c4 := A3.at 4 rfl; have y3c5 := A3.at 5 rfl; have y3c6 := A3.at 6 rfl; have y3c7 := A3.at 7 rfl) | (go_at_call 20; (with_reducible refine (xput_any _ xf xg xb hxo.out wx0 wx1.out).mono ?_); rintro e w4 ⟨rx, rfl, X4, hB4⟩; have hb4 := hb3.trans (hB4.mono hb3.size); have O4 := O3.pure hB4; obtain ⟨xl, hxe⟩ : ∃ l, Xn.bytes (xf, xg, xb) = l := ⟨_, rfl⟩; have hxeh := Lib.hid hxe; have hxll := Lib.hid (show xl.length ≤ 140 by rw [← hxe]; exact hxl.out); rw [hxe] at X4; clear hxe; obtain ⟨xa0, xc0, rfl⟩ := own_lenB X4; clear y3c0 y3c1 y3c2 y3c3 y3c4 y3c5 y3c6 y3c7; have A4 := hAh.out _ hb4; have y4c0 := A4.at 0 rfl; have y4c1 := A4.at 1 rfl; have y4c2 := A4.at 2 rfl; have y4c3 := A4.at 3 rfl; have y4c4 := A4.at 4 rfl; have y4c5 := A4.at 5 rfl; have y4c6 := A4.at 6 rfl; have y4c7 := A4.at 7 rfl) | (at_builtin; refine wpList_app (base := w2.heap.size) rfl (.tmp 40) (.tmp 41) 50 5 rfl elem_by byEnc_len byEnc_one _ [UInt8.ofNat kind.toNat] rfl O4 _ xl rfl (X4.slc byEnc_len) (by have h7 := hxll.out; have h8 : ([UInt8.ofNat kind.toNat] : List UInt8).length = 1 := rfl; unfold maxLen; omega) (by have h7 := hxll.out; have h8 : ([UInt8.ofNat kind.toNat] : List UInt8).length = 1 := rfl; omega) hb4.size ?_; intro v5 w5 O5 hgr5 hfr5 hsh5; have hb5 := hb4.grown hgr5 hb4.size (fun i e => O4.ge e); obtain ⟨M5, hM5⟩ : ∃ M, [UInt8.ofNat kind.toNat] ++ xl = M := ⟨_, rfl⟩; have hM5h := Lib.hid hM5; have hM5l := Lib.hid (show M5.length ≤ 141 by rw [← hM5, List.length_append]; have h8 : ([UInt8.ofNat kind.toNat] : List UInt8).length = 1 := rfl; have h7 := hxll.out; omega); rw [hM5] at O5; clear hM5; obtain ⟨ra5, rc5, rfl⟩ := own_lenB O5; clear cv; have cv := conv_str _ _ _ (O5.slc byEnc_len); clear y4c0 y4c1 y4c2 y4c3 y4c4 y4c5 y4c6 y4c7; have A5 := hAh.out _ hb5; have y5c0 := A5.at 0 rfl; have y5c1 := A5.at 1 rfl; have y5c2 := A5.at 2 rfl; have y5c3 := A5.at 3 rfl; have y5c4 := A5.at 4 rfl; have y5c5 := A5.at 5 rfl; have y5c6 := A5.at 6 rfl; have y5c7 := A5.at 7 rfl) | (go_at_call 21; (with_reducible refine (putall1_any _ _ M5 pa pc puts P (O5.slc byEnc_len) (by have h8 := hM5l.out; omega) (show Slc ptEnc 12 _ (.slice pa puts.length pc) puts from (hRh.out _ hb5).p) hpn.out (show ∀ x ∈ puts, Rd P _ x.pr.app from (hRh.out _ hb5).r) hpf.out (hTh.out _ hb5)).mono ?_); rintro e w6 ⟨r6, rfl, O6, hB6⟩; have hb6 := hb5.trans (hB6.mono hb5.size); have O6 := O6.rebase (b' := w2.heap.size) (fun i hi => Nat.le_trans hb5.size (O6.ge hi)); obtain ⟨M6, hM6⟩ : ∃ M, M5 ++ UInt8.ofNat puts.length :: puts.flatMap (fun x : PtT => x.p.bytes) = M := ⟨_, rfl⟩; have hM6h := Lib.hid hM6; have hM6l := Lib.hid (show M6.length ≤ 1270241 by rw [← hM6, List.length_append]; have h8 := hM5l.out; have h9 := hpl9.out; simp only [List.length_cons, List.length_nil]; omega); rw [hM6] at O6; clear hM6; obtain ⟨ra6, rc6, rfl⟩ := own_lenB O6; clear cv; have cv := conv_str _ _ _ (O6.slc byEnc_len); clear y5c0 y5c1 y5c2 y5c3 y5c4 y5c5 y5c6 y5c7; have A6 := hAh.out _ hb6; have y6c0 := A6.at 0 rfl; have y6c1 := A6.at 1 rfl; have y6c2 := A6.at 2 rfl; have y6c3 := A6.at 3 rfl; have y6c4 := A6.at 4 rfl; have y6c5 := A6.at 5 rfl; have y6c6 := A6.at 6 rfl; have y6c7 := A6.at 7 rfl) | (go_at_call 25; (with_reducible refine (putall2_any _ _ M6 ta tc takes P (O6.slc byEnc_len) (by have h8 := hM6l.out; omega) (show Slc rfEnc 2 _ (.slice ta takes.length tc) takes from (hRh.out _ hb6).s) htn.out htf.out (hTh.out _ hb6)).mono ?_); rintro e w7 ⟨r7, rfl, O7, hB7⟩; have hb7 := hb6.trans (hB7.mono hb6.size); have O7 := O7.rebase (b' := w2.heap.size) (fun i hi => Nat.le_trans hb6.size (O7.ge hi)); obtain ⟨M7, hM7⟩ : ∃ M, M6 ++ UInt8.ofNat takes.length :: takes.flatMap Rf.bytes = M := ⟨_, rfl⟩; have hM7h := Lib.hid hM7; have hM7l := Lib.hid (show M7.length ≤ 2540341 by rw [← hM7, List.length_append]; have h8 := hM6l.out; have h9 := htl9.out; simp only [List.length_cons, List.length_nil]; omega); rw [hM7] at O7; clear hM7; obtain ⟨ra7, rc7, rfl⟩ := own_lenB O7; clear cv; have cv := conv_str _ _ _ (O7.slc byEnc_len); clear y6c0 y6c1 y6c2 y6c3 y6c4 y6c5 y6c6 y6c7; have A7 := hAh.out _ hb7; have y7c0 := A7.at 0 rfl; have y7c1 := A7.at 1 rfl; have y7c2 := A7.at 2 rfl; have y7c3 := A7.at 3 rfl; have y7c4 := A7.at 4 rfl; have y7c5 := A7.at 5 rfl; have y7c6 := A7.at 6 rfl; have y7c7 := A7.at 7 rfl))
    have hfin := Lib.hid (show M7 = ex.bytes by rw [hbytes.out, ← hM7h.out, ← hM6h.out, ← hM5h.out, hxeh.out]; simp only [List.append_assoc, List.append_nil, List.nil_append, List.cons_append])
    go_ret2
    exact ⟨by show _ = Ending.returned (.tuple #[.string ⟨ex.bytes.toArray⟩, .int .i64 0]); rw [← hfin.out]; rfl, hT2.trans (hb7.mono hT2.size)⟩
end Go.Proofs.YtflglpbjapgciaaGreatDoor
