/- Entries: Get, the program's. Conditions: the text is short enough to be in memory; utf8's tables are laid. Written by gen_enI.py. -/
import Derived.Test.YtflglpbjapgciaaDoorEG
namespace Go.Proofs.YtflglpbjapgciaaDoor
set_option linter.unusedSimpArgs false
set_option linter.unusedVariables false
open Go.RowKit
def GotE (w : World) (o : Option En) (e : Ending) (w' : World) : Prop := ∃ t : EnT, e = .returned (.tuple #[t.arg, .int .i64 (enE o)]) ∧ t.e = enV o ∧ EnRd (fun i => w.heap.size ≤ i) w' t ∧ Below w.heap.size w w'
def set8 (w : World) (B : Nat) (v0 v1 v2 v3 v4 v5 v6 v7 : Value) : World := (((((((w.setCell ⟨B, 0, none⟩ v0).setCell ⟨B, 1, none⟩ v1).setCell ⟨B, 2, none⟩ v2).setCell ⟨B, 3, none⟩ v3).setCell ⟨B, 4, none⟩ v4).setCell ⟨B, 5, none⟩ v5).setCell ⟨B, 6, none⟩ v6).setCell ⟨B, 7, none⟩ v7
theorem Upd.at8 (w : World) (B : Nat) (v0 v1 v2 v3 v4 v5 v6 v7 : Value) : Upd (fun k => k = B) w (set8 w B v0 v1 v2 v3 v4 v5 v6 v7) := upd_set _ B _ _ (upd_set _ B _ _ (upd_set _ B _ _ (upd_set _ B _ _ (upd_set _ B _ _ (upd_set _ B _ _ (upd_set _ B _ _ (upd_set _ B _ _ (Upd.refl _ w) rfl) rfl) rfl) rfl) rfl) rfl) rfl) rfl
theorem Blk.fresh8 {w : World} {B : Nat} {c0 c1 c2 c3 c4 c5 c6 c7 : Value} (h : Blk w B [c0, c1, c2, c3, c4, c5, c6, c7]) (v0 v1 v2 v3 v4 v5 v6 v7 : Value) : Blk (set8 w B v0 v1 v2 v3 v4 v5 v6 v7) B [v0, v1, v2, v3, v4, v5, v6, v7] := (((((((h.set 0 v0).set 1 v1).set 2 v2).set 3 v3).set 4 v4).set 5 v5).set 6 v6).set 7 v7
theorem egO_ok {L : List UInt8} {q : En} {rE : RS} (h : egP L = (q, rE)) (h0 : rE.2 = false) (h1 : q.chk = 0) (h2 : q.bytes = L) : egO L = some q := by
  rw [egO_P, h]; exact if_pos ⟨h0, h1, h2⟩
theorem egO_no {L : List UInt8} {q : En} {rE : RS} (h : egP L = (q, rE)) (h0 : ¬ (rE.2 = false ∧ q.chk = 0 ∧ q.bytes = L)) : egO L = none := by
  rw [egO_P, h]; exact if_neg h0
theorem zen_rd {P : Nat → Prop} {w : World} : EnRd P w (EnT.mk 0 ⟨#[]⟩ 0 (0, ⟨#[]⟩, ⟨#[]⟩) (.slice none 0 0) (.slice none 0 0) [] []) := ⟨Slc.nil _ _ _, (fun k e => by cases e), (fun x hx => absurd hx (by simp)), Slc.nil _ _ _, (fun k e => by cases e), ⟨(by show (0 : Int) ≤ 0; omega), (by show (0 : Int) < 256; omega), (by show (0 : Int) ≤ 0; omega), (by show (0 : Int) < 18446744073709551616; omega), (by show (0 : Int) ≤ 0; omega), (by show (0 : Int) < 4294967296; omega), (fun p hp => absurd hp (by simp [EnT.e])), (fun p hp => absurd hp (by simp [EnT.e]))⟩⟩
theorem u32_wrap (x : Int) (h0 : 0 ≤ x) (h : x < 4294967296) : IntKind.u32.wrap x = x := by
  have e : IntKind.u32.wrap x = x % 4294967296 := rfl
  rw [e]; omega
set_option maxRecDepth 100000 in
set_option maxHeartbeats 51200000 in
theorem eget_any (w : World) (s : ByteArray) (hs : s.size ≤ 2000000) (hT : Tb w) : Calls Tryd.prog 15 #[.string s] w (GotE w (egO s.data.toList)) := by
  obtain ⟨L, hLe⟩ : ∃ L, s.data.toList = L := ⟨_, rfl⟩
  have hLl : L.length = s.size := by rw [← hLe]; exact ba_len s
  have hLB : Big L.length := by unfold Big; omega
  have hB1 := ((Below.refl w.heap.size w).alloc (Nat.le_refl _) (.cells #[.string s] 9)).alloc (by simp) (.cells #[.int .u8 0, .string ⟨#[]⟩, .int .u64 0, .int .u32 0, .string ⟨#[]⟩, .string ⟨#[]⟩, .slice none 0 0, .slice none 0 0] 31)
  have S1 := (Blk.new w [.string s] 9).alloc (.cells #[.int .u8 0, .string ⟨#[]⟩, .int .u64 0, .int .u32 0, .string ⟨#[]⟩, .string ⟨#[]⟩, .slice none 0 0, .slice none 0 0] 31)
  have Z1 := Blk.newK (w.alloc (.cells #[.string s] 9)) [.int .u8 0, .string ⟨#[]⟩, .int .u64 0, .int .u32 0, .string ⟨#[]⟩, .string ⟨#[]⟩, .slice none 0 0, .slice none 0 0] 31 (w.heap.size + 1) (by simp)
  have hz1 := Lib.hid (show ((w.alloc (.cells #[.string s] 9)).alloc (.cells #[.int .u8 0, .string ⟨#[]⟩, .int .u64 0, .int .u32 0, .string ⟨#[]⟩, .string ⟨#[]⟩, .slice none 0 0, .slice none 0 0] 31)).heap.size = w.heap.size + 2 by simp)
  obtain ⟨cc, W3, hcv, hS3, hC3⟩ := conv_bytes ((w.alloc (.cells #[.string s] 9)).alloc (.cells #[.int .u8 0, .string ⟨#[]⟩, .int .u64 0, .int .u32 0, .string ⟨#[]⟩, .string ⟨#[]⟩, .slice none 0 0, .slice none 0 0] 31)) s (by omega)
  rw [hLe] at hS3 ⊢
  rw [hz1.out] at hS3 hcv
  have S3 := S1.pure hC3; have Z3 := Z1.pure hC3
  have hT3 := hB1.trans (hC3.mono hB1.size)
  have hLeh := Lib.hid hLe; have hsz := Lib.hid hs; have hLlh := Lib.hid hLl
  obtain ⟨⟨k, r1⟩, hk⟩ : ∃ x, nmR 1 (L, false) = x := ⟨_, rfl⟩
  have hk0 := nmR_lt 1 (L, false)
  rw [hk] at hk0
  have hkl : k < 256 := hk0
  have hkw : IntKind.u8.wrap (k : Int) = (k : Int) := en_wrap8 k hkl
  have l1 := Lib.hid (show r1.1.length ≤ L.length by have := nmR_le 1 (L, false); rw [hk] at this; exact this)
  have hkh := Lib.hid hk; have hLBh := Lib.hid hLB
  have zi := entry_info; have zx := xid_info
  have s1 := S3.at 0 rfl; have s1b := S1.at 0 rfl
  clear hk hk0 hkl hLe hLl hs hLB
  go_enter Tryd.func15, Tryd.ntmps15
  go_upto_region 4 with (first | (go_at_call 35; refine (oopen_any _ _ L hS3 hLBh.out).mono ?_; rintro e w4 ⟨rb, vb, rfl, hp4, hs4, hvb4, hrb4, hB4⟩; have S4 := S3.pure hB4; have Z4 := Z3.pure hB4; have hT4 := hT3.trans (hB4.mono hT3.size); have hvb := Lib.hid (show w.heap.size + 1 < vb by have h1 := hC3.size; rw [hz1.out] at h1; omega); have hA5 := ((Below.refl w4.heap.size w4).alloc (Nat.le_refl _) (.cells #[.pointer (some ⟨rb, 0, none⟩)] 72)); have B5 := Blk.new w4 [.pointer (some ⟨rb, 0, none⟩)] 72; have E5 : RdE (w4.alloc (.cells #[.pointer (some ⟨rb, 0, none⟩)] 72)) w4.heap.size rb vb (L, false) := ⟨B5, hp4.pure hA5, hs4.pure hA5, hs4.lt, hp4.1.lt, hLBh.out⟩; have S5 := S4.pure hA5; have Z5 := Z4.pure hA5; have hT5 := hT4.trans (hA5.mono hT4.size); have t5 := E5.b.at 0 rfl) | (go_at_call 36; refine (pnum_rs _ rb vb (L, false) 1 E5.p E5.s (by unfold Wd; omega) E5.l).mono ?_; rintro e w6 ⟨he, hs6, hu6⟩; simp only [hkh.out] at he hs6; subst he; have E6 := E5.next hu6 hs6 l1.out; have S6 := S5.upd hu6 (fun e => by have h1 := hvb.out; unfold Only at e; omega); have Z6 := Z5.upd hu6 (fun e => by have h1 := hvb.out; unfold Only at e; omega); have hT6 := below_only hT5 hu6 (by have h1 := hvb.out; omega) hT5.size; have hpb := Lib.hid (show w4.heap.size < w6.heap.size from E6.b.lt); have hA7 := ((Below.refl w6.heap.size w6).alloc (Nat.le_refl _) (.cells #[.int .u8 k, .string ⟨#[]⟩, .int .u64 0, .int .u32 0, .string ⟨#[]⟩, .string ⟨#[]⟩, .slice none 0 0, .slice none 0 0] 31)); have E7 := E6.pure hA7; have S7 := S6.pure hA7; have Z7 := Z6.pure hA7; have hT7 := hT6.trans (hA7.mono hT6.size); have P7 := Blk.new w6 [.int .u8 k, .string ⟨#[]⟩, .int .u64 0, .int .u32 0, .string ⟨#[]⟩, .string ⟨#[]⟩, .slice none 0 0, .slice none 0 0] 31; have t7 := E7.b.at 0 rfl; have p0 := P7.at 0 rfl) | (go_at_call 25; (with_reducible refine (uses_any _ _).mono ?_); rintro e _ ⟨rfl, rfl⟩))
  have hvt := Lib.hid (show vb < w4.heap.size from E7.v)
  clear t5 t7 p0 hcv s1 s1b S1 S3 S4 S5 S6 Z1 Z3 Z4 Z5 Z6 E5 E6 hB4 hT4 hT5 hT6 hA5 hA7 hs4 hs6 hu6 hp4 B5 hS3 hC3 hB1 hT3
  generalize World.alloc w6 (.cells #[.int .u8 k, .string ⟨#[]⟩, .int .u64 0, .int .u32 0, .string ⟨#[]⟩, .string ⟨#[]⟩, .slice none 0 0, .slice none 0 0] 31) = w7 at *
  obtain ⟨b1, b2, b4, b8⟩ := and_us (us (k : Int)) (us_lt _)
  have hegP := fun (name : ByteArray) (ra : RS) (n : Nat) (rc : RS) (x : Xn) (rd : RS) (f : (List Pt × List Rf) × RS) (h1 : (if uN (k : Int) then txR 1 255 r1 else (⟨#[]⟩, r1)) = (name, ra)) (h2 : (if uM (k : Int) then nmR 8 ra else (0, ra)) = (n, rc)) (h3 : (if uX (k : Int) then rdX rc else (Xn.zero, rc)) = (x, rd)) (h4 : (if uW (k : Int) then rdW L.length rd else (([], []), rd)) = f) => show egP L = (⟨(k : Int), name, (n : Int), x, f.1.1, f.1.2⟩, f.2) by
    unfold egP
    rw [hkh.out]
    dsimp only
    rw [h1]
    dsimp only
    rw [h2]
    dsimp only
    rw [h3]
    dsimp only
    rw [h4]
  have hegh := Lib.hid hegP
  clear hegP
  rcases us_cases (k : Int) with h | h | h | h | h | h | h
  · have nN : uN (k : Int) = false := by unfold uN; rw [h]; rfl
    have nM : uM (k : Int) = false := by unfold uM; rw [h]; rfl
    have nX : uX (k : Int) = false := by unfold uX; rw [h]; rfl
    have nW : uW (k : Int) = false := by unfold uW; rw [h]; rfl
    rw [show (us (k : Int) % 2 == 1) = false from nN] at b1
    rw [show (us (k : Int) / 2 % 2 == 1) = false from nM] at b2
    rw [show (us (k : Int) / 4 % 2 == 1) = false from nX] at b4
    rw [show (us (k : Int) / 8 % 2 == 1) = false from nW] at b8
    have hpq0 := Lib.hid (hegh.out ⟨#[]⟩ r1 0 r1 (0, ⟨#[]⟩, ⟨#[]⟩) r1 (([], []), r1) (by rw [nN]; rfl) (by rw [nM]; rfl) (by rw [nX]; rfl) (by rw [nW]; rfl))
    clear nN nM nX nW 
    obtain ⟨u, hue⟩ : ∃ u, us (k : Int) = u := ⟨_, rfl⟩
    rw [hue] at b1 b2 b4 b8
    try rw [hue]
    clear h hue
    have tt7 := E7.b.at 0 rfl
    have hpq := Lib.hid (show egP L = ((EnT.mk (k : Int) ⟨#[]⟩ (0 : Int) (0, ⟨#[]⟩, ⟨#[]⟩) (.slice none 0 0) (.slice none 0 0) [] []).e, r1) from hpq0.out)
    have hwf := Lib.hid (show (EnT.mk (k : Int) ⟨#[]⟩ (0 : Int) (0, ⟨#[]⟩, ⟨#[]⟩) (.slice none 0 0) (.slice none 0 0) [] []).e.Wf by have h9 := egP_wf L; rw [hpq.out] at h9; exact h9)
    have hrd := Lib.hid (show EnRd (fun i => w.heap.size ≤ i) w7 (EnT.mk (k : Int) ⟨#[]⟩ (0 : Int) (0, ⟨#[]⟩, ⟨#[]⟩) (.slice none 0 0) (.slice none 0 0) [] []) from ⟨Slc.nil _ _ _, (fun i e => by cases e), (fun x hx => absurd hx (by simp)), Slc.nil _ _ _, (fun i e => by cases e), hwf.out⟩)
    obtain ⟨q, hq⟩ : ∃ q, (EnT.mk (k : Int) ⟨#[]⟩ (0 : Int) (0, ⟨#[]⟩, ⟨#[]⟩) (.slice none 0 0) (.slice none 0 0) [] []).e = q := ⟨_, rfl⟩
    have hput := eput_any (EnT.mk (k : Int) ⟨#[]⟩ (0 : Int) (0, ⟨#[]⟩, ⟨#[]⟩) (.slice none 0 0) (.slice none 0 0) [] []) (fun i => w.heap.size ≤ i) w7 hrd.out (hT.pure hT7)
    obtain ⟨cx, hcx⟩ : ∃ cx, q.chk = cx := ⟨_, rfl⟩
    obtain ⟨tx, htx⟩ : ∃ tx, (if cx = 0 then q.text else (⟨#[]⟩ : ByteArray)) = tx := ⟨_, rfl⟩
    rw [hq, hcx, htx, EnT.arg_mk] at hput
    have hpqq := hpq.out
    rw [hq] at hpqq
    have hpq2 := Lib.hid hpqq
    have hputh := Lib.hid hput; have hqh := Lib.hid hq; have hcxh := Lib.hid hcx; have htxh := Lib.hid htx
    clear hput hq hcx htx hpqq
    obtain ⟨⟨rE1, bad⟩, hrE⟩ : ∃ x, r1 = x := ⟨_, rfl⟩
    have hpq3 := hpq2.out
    rw [hrE] at hpq3
    have hpq3 := Lib.hid hpq3
    have hE := E7
    rw [hrE] at hE
    clear hrE
    have p0 := P7.at 0 rfl; have p1 := P7.at 1 rfl; have p2 := P7.at 2 rfl; have p3 := P7.at 3 rfl; have p4 := P7.at 4 rfl; have p5 := P7.at 5 rfl; have p6 := P7.at 6 rfl; have p7 := P7.at 7 rfl
    have hend0 := Lib.hid (fun (v : World) (hB : Below w7.heap.size w7 v) (v2 : World) (hu : Upd (fun i => i = w.heap.size + 1) v v2) => show EnRd (fun i => w.heap.size ≤ i) v2 (EnT.mk (k : Int) ⟨#[]⟩ (0 : Int) (0, ⟨#[]⟩, ⟨#[]⟩) (.slice none 0 0) (.slice none 0 0) [] []) from ⟨Slc.nil _ _ _, (fun i e => by cases e), (fun x hx => absurd hx (by simp)), Slc.nil _ _ _, (fun i e => by cases e), hwf.out⟩)
    by_cases hok : bad = false ∧ cx = 0 ∧ tx = s
    · obtain ⟨rfl, rfl, rfl⟩ := hok
      have hgoh := Lib.hid (egO_ok hpq3.out rfl hcxh.out (by have h1 := htxh.out; rw [if_pos rfl] at h1; exact (en_text.1 h1).trans hLeh.out))
      go_wp2_with (first | (go_at_call 14; refine (hputh.out).mono ?_; rintro e w80 ⟨rfl, hB80⟩; have Z80 := Z7.pure hB80; have E80 := hE.pure hB80; have S80 := S7.pure hB80; have P80 := P7.pure hB80; have R80 := hrd.out.pure hB80; have hT80 := hT7.trans (hB80.mono hT7.size); clear p0 p1 p2 p3 p4 p5 p6 p7; have p0 := P80.at 0 rfl; have p1 := P80.at 1 rfl; have p2 := P80.at 2 rfl; have p3 := P80.at 3 rfl; have p4 := P80.at 4 rfl; have p5 := P80.at 5 rfl; have p6 := P80.at 6 rfl; have p7 := P80.at 7 rfl; have z0 := Z80.at 0 rfl; have z1 := Z80.at 1 rfl; have z2 := Z80.at 2 rfl; have z3 := Z80.at 3 rfl; have z4 := Z80.at 4 rfl; have z5 := Z80.at 5 rfl; have z6 := Z80.at 6 rfl; have z7 := Z80.at 7 rfl; have y0 := Z80.frozen 0; have y1 := Z80.frozen 1; have y2 := Z80.frozen 2; have y3 := Z80.frozen 3; have y4 := Z80.frozen 4; have y5 := Z80.frozen 5; have y6 := Z80.frozen 6; have y7 := Z80.frozen 7; have tt80 := E80.b.at 0 rfl; have ss80 := S80.at 0 rfl) | (go_at_call 43; (with_reducible refine (bad_any _ rb vb rE1 _ E80.p E80.s).mono ?_); rintro e _ ⟨rfl, rfl⟩))
      have hgo := hgoh.out
      have hend := Lib.hid (fun (v2 : World) (hu : Upd (fun i => i = w.heap.size + 1) w80 v2) => hend0.out w80 hB80 v2 hu)
      have hv := Upd.at8 w80 (w.heap.size + 1) (.int .u8 k) (.string ⟨#[]⟩) (.int .u64 0) (.int .u32 0) (.string ⟨#[]⟩) (.string ⟨#[]⟩) (.slice none 0 0) (.slice none 0 0)
      have K9 := Z80.fresh8 (.int .u8 k) (.string ⟨#[]⟩) (.int .u64 0) (.int .u32 0) (.string ⟨#[]⟩) (.string ⟨#[]⟩) (.slice none 0 0) (.slice none 0 0)
      have R9 := R80
      unfold set8 at hv K9
      have k0 := K9.at 0 rfl; have k1 := K9.at 1 rfl; have k2 := K9.at 2 rfl; have k3 := K9.at 3 rfl; have k4 := K9.at 4 rfl; have k5 := K9.at 5 rfl; have k6 := K9.at 6 rfl; have k7 := K9.at 7 rfl
      refine bodyPost_ret (by simp [results, Tryd.results15, go_sem, k0, k1, k2, k3, k4, k5, k6, k7]; rfl) rfl ?_
      have hTz := hT80.trans (hv.below hT80.size (fun i e => by omega))
      exact ⟨(EnT.mk (k : Int) ⟨#[]⟩ (0 : Int) (0, ⟨#[]⟩, ⟨#[]⟩) (.slice none 0 0) (.slice none 0 0) [] []), by rw [hgo]; rfl, by rw [hgo]; exact hqh.out, hend.out _ hv, hTz⟩
    have hgoh := Lib.hid (show egO L = none from egO_no hpq3.out (fun e => hok ⟨e.1, hcxh.out.symm.trans e.2.1, by have h1 := htxh.out; rw [if_pos (hcxh.out.symm.trans e.2.1)] at h1; rw [← h1]; exact en_text.2 (e.2.2.trans hLeh.out.symm)⟩))
    cases bad
    rotate_left 1
    · clear hok
      go_wp2_with (first | (go_at_call 14; refine (hputh.out).mono ?_; rintro e w80 ⟨rfl, hB80⟩; have Z80 := Z7.pure hB80; have E80 := hE.pure hB80; have S80 := S7.pure hB80; have P80 := P7.pure hB80; have R80 := hrd.out.pure hB80; have hT80 := hT7.trans (hB80.mono hT7.size); clear p0 p1 p2 p3 p4 p5 p6 p7; have p0 := P80.at 0 rfl; have p1 := P80.at 1 rfl; have p2 := P80.at 2 rfl; have p3 := P80.at 3 rfl; have p4 := P80.at 4 rfl; have p5 := P80.at 5 rfl; have p6 := P80.at 6 rfl; have p7 := P80.at 7 rfl; have z0 := Z80.at 0 rfl; have z1 := Z80.at 1 rfl; have z2 := Z80.at 2 rfl; have z3 := Z80.at 3 rfl; have z4 := Z80.at 4 rfl; have z5 := Z80.at 5 rfl; have z6 := Z80.at 6 rfl; have z7 := Z80.at 7 rfl; have y0 := Z80.frozen 0; have y1 := Z80.frozen 1; have y2 := Z80.frozen 2; have y3 := Z80.frozen 3; have y4 := Z80.frozen 4; have y5 := Z80.frozen 5; have y6 := Z80.frozen 6; have y7 := Z80.frozen 7; have tt80 := E80.b.at 0 rfl; have ss80 := S80.at 0 rfl) | (go_at_call 43; (with_reducible refine (bad_any _ rb vb rE1 _ E80.p E80.s).mono ?_); rintro e _ ⟨rfl, rfl⟩))
      have hgo := hgoh.out
      have hv := Upd.at8 w80 (w.heap.size + 1) (.int .u8 0) (.string ⟨#[]⟩) (.int .u64 0) (.int .u32 0) (.string ⟨#[]⟩) (.string ⟨#[]⟩) (.slice none 0 0) (.slice none 0 0)
      have K9 := Z80.fresh8 (.int .u8 0) (.string ⟨#[]⟩) (.int .u64 0) (.int .u32 0) (.string ⟨#[]⟩) (.string ⟨#[]⟩) (.slice none 0 0) (.slice none 0 0)
      unfold set8 at hv K9
      have k0 := K9.at 0 rfl; have k1 := K9.at 1 rfl; have k2 := K9.at 2 rfl; have k3 := K9.at 3 rfl; have k4 := K9.at 4 rfl; have k5 := K9.at 5 rfl; have k6 := K9.at 6 rfl; have k7 := K9.at 7 rfl
      refine bodyPost_ret (by simp [results, Tryd.results15, go_sem, k0, k1, k2, k3, k4, k5, k6, k7]; rfl) rfl ?_
      have hTz := hT80.trans (hv.below hT80.size (fun i e => by omega))
      exact ⟨(EnT.mk 0 ⟨#[]⟩ 0 (0, ⟨#[]⟩, ⟨#[]⟩) (.slice none 0 0) (.slice none 0 0) [] []), by rw [hgo]; rfl, by rw [hgo]; rfl, zen_rd, hTz⟩
    by_cases hc : cx = 0
    rotate_left 1
    · have g1 : (cx != 0) = true := bne_iff_ne.2 hc
      have g2 : (cx == 0) = false := beq_eq_false_iff_ne.2 hc
      clear hok hc
      go_wp2_with (first | (go_at_call 14; refine (hputh.out).mono ?_; rintro e w80 ⟨rfl, hB80⟩; have Z80 := Z7.pure hB80; have E80 := hE.pure hB80; have S80 := S7.pure hB80; have P80 := P7.pure hB80; have R80 := hrd.out.pure hB80; have hT80 := hT7.trans (hB80.mono hT7.size); clear p0 p1 p2 p3 p4 p5 p6 p7; have p0 := P80.at 0 rfl; have p1 := P80.at 1 rfl; have p2 := P80.at 2 rfl; have p3 := P80.at 3 rfl; have p4 := P80.at 4 rfl; have p5 := P80.at 5 rfl; have p6 := P80.at 6 rfl; have p7 := P80.at 7 rfl; have z0 := Z80.at 0 rfl; have z1 := Z80.at 1 rfl; have z2 := Z80.at 2 rfl; have z3 := Z80.at 3 rfl; have z4 := Z80.at 4 rfl; have z5 := Z80.at 5 rfl; have z6 := Z80.at 6 rfl; have z7 := Z80.at 7 rfl; have y0 := Z80.frozen 0; have y1 := Z80.frozen 1; have y2 := Z80.frozen 2; have y3 := Z80.frozen 3; have y4 := Z80.frozen 4; have y5 := Z80.frozen 5; have y6 := Z80.frozen 6; have y7 := Z80.frozen 7; have tt80 := E80.b.at 0 rfl; have ss80 := S80.at 0 rfl) | (go_at_call 43; (with_reducible refine (bad_any _ rb vb rE1 _ E80.p E80.s).mono ?_); rintro e _ ⟨rfl, rfl⟩))
      have hgo := hgoh.out
      have hv := Upd.at8 w80 (w.heap.size + 1) (.int .u8 0) (.string ⟨#[]⟩) (.int .u64 0) (.int .u32 0) (.string ⟨#[]⟩) (.string ⟨#[]⟩) (.slice none 0 0) (.slice none 0 0)
      have K9 := Z80.fresh8 (.int .u8 0) (.string ⟨#[]⟩) (.int .u64 0) (.int .u32 0) (.string ⟨#[]⟩) (.string ⟨#[]⟩) (.slice none 0 0) (.slice none 0 0)
      unfold set8 at hv K9
      have k0 := K9.at 0 rfl; have k1 := K9.at 1 rfl; have k2 := K9.at 2 rfl; have k3 := K9.at 3 rfl; have k4 := K9.at 4 rfl; have k5 := K9.at 5 rfl; have k6 := K9.at 6 rfl; have k7 := K9.at 7 rfl
      refine bodyPost_ret (by simp [results, Tryd.results15, go_sem, k0, k1, k2, k3, k4, k5, k6, k7]; rfl) rfl ?_
      have hTz := hT80.trans (hv.below hT80.size (fun i e => by omega))
      exact ⟨(EnT.mk 0 ⟨#[]⟩ 0 (0, ⟨#[]⟩, ⟨#[]⟩) (.slice none 0 0) (.slice none 0 0) [] []), by rw [hgo]; rfl, by rw [hgo]; rfl, zen_rd, hTz⟩
    subst hc
    have hne : tx ≠ s := fun e => hok ⟨rfl, rfl, e⟩
    have g1 : ¬ tx.toList = s.toList := ba_toList_ne hne
    have g2 : (tx.toList == s.toList) = false := beq_eq_false_iff_ne.2 g1
    have g3 : (tx != s) = true := ba_bne hne
    clear hok hne
    go_wp2_with (first | (go_at_call 14; refine (hputh.out).mono ?_; rintro e w80 ⟨rfl, hB80⟩; have Z80 := Z7.pure hB80; have E80 := hE.pure hB80; have S80 := S7.pure hB80; have P80 := P7.pure hB80; have R80 := hrd.out.pure hB80; have hT80 := hT7.trans (hB80.mono hT7.size); clear p0 p1 p2 p3 p4 p5 p6 p7; have p0 := P80.at 0 rfl; have p1 := P80.at 1 rfl; have p2 := P80.at 2 rfl; have p3 := P80.at 3 rfl; have p4 := P80.at 4 rfl; have p5 := P80.at 5 rfl; have p6 := P80.at 6 rfl; have p7 := P80.at 7 rfl; have z0 := Z80.at 0 rfl; have z1 := Z80.at 1 rfl; have z2 := Z80.at 2 rfl; have z3 := Z80.at 3 rfl; have z4 := Z80.at 4 rfl; have z5 := Z80.at 5 rfl; have z6 := Z80.at 6 rfl; have z7 := Z80.at 7 rfl; have y0 := Z80.frozen 0; have y1 := Z80.frozen 1; have y2 := Z80.frozen 2; have y3 := Z80.frozen 3; have y4 := Z80.frozen 4; have y5 := Z80.frozen 5; have y6 := Z80.frozen 6; have y7 := Z80.frozen 7; have tt80 := E80.b.at 0 rfl; have ss80 := S80.at 0 rfl) | (go_at_call 43; (with_reducible refine (bad_any _ rb vb rE1 _ E80.p E80.s).mono ?_); rintro e _ ⟨rfl, rfl⟩))
    have hgo := hgoh.out
    have hv := Upd.at8 w80 (w.heap.size + 1) (.int .u8 0) (.string ⟨#[]⟩) (.int .u64 0) (.int .u32 0) (.string ⟨#[]⟩) (.string ⟨#[]⟩) (.slice none 0 0) (.slice none 0 0)
    have K9 := Z80.fresh8 (.int .u8 0) (.string ⟨#[]⟩) (.int .u64 0) (.int .u32 0) (.string ⟨#[]⟩) (.string ⟨#[]⟩) (.slice none 0 0) (.slice none 0 0)
    unfold set8 at hv K9
    have k0 := K9.at 0 rfl; have k1 := K9.at 1 rfl; have k2 := K9.at 2 rfl; have k3 := K9.at 3 rfl; have k4 := K9.at 4 rfl; have k5 := K9.at 5 rfl; have k6 := K9.at 6 rfl; have k7 := K9.at 7 rfl
    refine bodyPost_ret (by simp [results, Tryd.results15, go_sem, k0, k1, k2, k3, k4, k5, k6, k7]; rfl) rfl ?_
    have hTz := hT80.trans (hv.below hT80.size (fun i e => by omega))
    exact ⟨(EnT.mk 0 ⟨#[]⟩ 0 (0, ⟨#[]⟩, ⟨#[]⟩) (.slice none 0 0) (.slice none 0 0) [] []), by rw [hgo]; rfl, by rw [hgo]; rfl, zen_rd, hTz⟩
  · have nN : uN (k : Int) = true := by unfold uN; rw [h]; rfl
    have nM : uM (k : Int) = false := by unfold uM; rw [h]; rfl
    have nX : uX (k : Int) = false := by unfold uX; rw [h]; rfl
    have nW : uW (k : Int) = false := by unfold uW; rw [h]; rfl
    rw [show (us (k : Int) % 2 == 1) = true from nN] at b1
    rw [show (us (k : Int) / 2 % 2 == 1) = false from nM] at b2
    rw [show (us (k : Int) / 4 % 2 == 1) = false from nX] at b4
    rw [show (us (k : Int) / 8 % 2 == 1) = false from nW] at b8
    obtain ⟨⟨name, ra⟩, hn⟩ : ∃ x, txR 1 255 r1 = x := ⟨_, rfl⟩
    have ln := Lib.hid (show ra.1.length ≤ r1.1.length by have := txR_le 1 255 r1; rw [hn] at this; exact this)
    have hnh := Lib.hid hn
    have hpq0 := Lib.hid (hegh.out name ra 0 ra (0, ⟨#[]⟩, ⟨#[]⟩) ra (([], []), ra) (by rw [nN]; rw [if_pos rfl, hn]) (by rw [nM]; rfl) (by rw [nX]; rfl) (by rw [nW]; rfl))
    clear nN nM nX nW hn
    obtain ⟨u, hue⟩ : ∃ u, us (k : Int) = u := ⟨_, rfl⟩
    rw [hue] at b1 b2 b4 b8
    try rw [hue]
    clear h hue
    have tt7 := E7.b.at 0 rfl
    go_upto_region 6 with (go_at_call 37; refine (ptext_rs _ rb vb r1 1 255 E7.p E7.s (by omega) E7.l (by unfold Big; omega)).mono ?_; rintro e w8 ⟨he, hs8, hu8⟩; simp only [hnh.out] at he hs8; subst he; have E8 := E7.next hu8 hs8 ln.out; have S8 := S7.upd hu8 (fun e => by have h1 := hvb.out; have h2 := hvt.out; have h3 := hpb.out; unfold Only at e; omega); have Z8 := Z7.upd hu8 (fun e => by have h1 := hvb.out; have h2 := hvt.out; have h3 := hpb.out; unfold Only at e; omega); have P8 := P7.upd hu8 (fun e => by have h1 := hvb.out; have h2 := hvt.out; have h3 := hpb.out; unfold Only at e; omega); have hT8 := below_only hT7 hu8 (by have h1 := hvb.out; omega) hT7.size; have tt8 := E8.b.at 0 rfl; have pp1 := P8.at 1 rfl; have yy1 := P8.frozen 1)
    have hu9 := (upd_set _ w6.heap.size 1 (.string name) (Upd.refl (fun k => k = w6.heap.size) w8) rfl)
    have P9 : Blk _ w6.heap.size [.int .u8 k, .string name, .int .u64 0, .int .u32 0, .string ⟨#[]⟩, .string ⟨#[]⟩, .slice none 0 0, .slice none 0 0] := (P8.set 1 (.string name))
    have E9 := E8.other hu9 (fun k e => by have h3 := hpb.out; omega)
    have S9 := S8.upd hu9 (fun e => by have h1 := hvb.out; have h2 := hvt.out; have h3 := hpb.out; omega)
    have Z9 := Z8.upd hu9 (fun e => by have h1 := hvb.out; have h2 := hvt.out; have h3 := hpb.out; omega)
    have hT9 := hT8.trans (hu9.below hT8.size (fun i e => by have h1 := hvb.out; have h2 := hvt.out; have h3 := hpb.out; omega))
    generalize World.setCell w8 _ _ = w9 at *
    clear pp1 yy1 tt8
    have tt9 := E9.b.at 0 rfl
    have hpq := Lib.hid (show egP L = ((EnT.mk (k : Int) name (0 : Int) (0, ⟨#[]⟩, ⟨#[]⟩) (.slice none 0 0) (.slice none 0 0) [] []).e, ra) from hpq0.out)
    have hwf := Lib.hid (show (EnT.mk (k : Int) name (0 : Int) (0, ⟨#[]⟩, ⟨#[]⟩) (.slice none 0 0) (.slice none 0 0) [] []).e.Wf by have h9 := egP_wf L; rw [hpq.out] at h9; exact h9)
    have hrd := Lib.hid (show EnRd (fun i => w.heap.size ≤ i) w9 (EnT.mk (k : Int) name (0 : Int) (0, ⟨#[]⟩, ⟨#[]⟩) (.slice none 0 0) (.slice none 0 0) [] []) from ⟨Slc.nil _ _ _, (fun i e => by cases e), (fun x hx => absurd hx (by simp)), Slc.nil _ _ _, (fun i e => by cases e), hwf.out⟩)
    obtain ⟨q, hq⟩ : ∃ q, (EnT.mk (k : Int) name (0 : Int) (0, ⟨#[]⟩, ⟨#[]⟩) (.slice none 0 0) (.slice none 0 0) [] []).e = q := ⟨_, rfl⟩
    have hput := eput_any (EnT.mk (k : Int) name (0 : Int) (0, ⟨#[]⟩, ⟨#[]⟩) (.slice none 0 0) (.slice none 0 0) [] []) (fun i => w.heap.size ≤ i) w9 hrd.out (hT.pure hT9)
    obtain ⟨cx, hcx⟩ : ∃ cx, q.chk = cx := ⟨_, rfl⟩
    obtain ⟨tx, htx⟩ : ∃ tx, (if cx = 0 then q.text else (⟨#[]⟩ : ByteArray)) = tx := ⟨_, rfl⟩
    rw [hq, hcx, htx, EnT.arg_mk] at hput
    have hpqq := hpq.out
    rw [hq] at hpqq
    have hpq2 := Lib.hid hpqq
    have hputh := Lib.hid hput; have hqh := Lib.hid hq; have hcxh := Lib.hid hcx; have htxh := Lib.hid htx
    clear hput hq hcx htx hpqq
    obtain ⟨⟨rE1, bad⟩, hrE⟩ : ∃ x, ra = x := ⟨_, rfl⟩
    have hpq3 := hpq2.out
    rw [hrE] at hpq3
    have hpq3 := Lib.hid hpq3
    have hE := E9
    rw [hrE] at hE
    clear hrE
    have p0 := P9.at 0 rfl; have p1 := P9.at 1 rfl; have p2 := P9.at 2 rfl; have p3 := P9.at 3 rfl; have p4 := P9.at 4 rfl; have p5 := P9.at 5 rfl; have p6 := P9.at 6 rfl; have p7 := P9.at 7 rfl
    have hend0 := Lib.hid (fun (v : World) (hB : Below w9.heap.size w9 v) (v2 : World) (hu : Upd (fun i => i = w.heap.size + 1) v v2) => show EnRd (fun i => w.heap.size ≤ i) v2 (EnT.mk (k : Int) name (0 : Int) (0, ⟨#[]⟩, ⟨#[]⟩) (.slice none 0 0) (.slice none 0 0) [] []) from ⟨Slc.nil _ _ _, (fun i e => by cases e), (fun x hx => absurd hx (by simp)), Slc.nil _ _ _, (fun i e => by cases e), hwf.out⟩)
    by_cases hok : bad = false ∧ cx = 0 ∧ tx = s
    · obtain ⟨rfl, rfl, rfl⟩ := hok
      have hgoh := Lib.hid (egO_ok hpq3.out rfl hcxh.out (by have h1 := htxh.out; rw [if_pos rfl] at h1; exact (en_text.1 h1).trans hLeh.out))
      go_wp2_with (first | (go_at_call 14; refine (hputh.out).mono ?_; rintro e w80 ⟨rfl, hB80⟩; have Z80 := Z9.pure hB80; have E80 := hE.pure hB80; have S80 := S9.pure hB80; have P80 := P9.pure hB80; have R80 := hrd.out.pure hB80; have hT80 := hT9.trans (hB80.mono hT9.size); clear p0 p1 p2 p3 p4 p5 p6 p7; have p0 := P80.at 0 rfl; have p1 := P80.at 1 rfl; have p2 := P80.at 2 rfl; have p3 := P80.at 3 rfl; have p4 := P80.at 4 rfl; have p5 := P80.at 5 rfl; have p6 := P80.at 6 rfl; have p7 := P80.at 7 rfl; have z0 := Z80.at 0 rfl; have z1 := Z80.at 1 rfl; have z2 := Z80.at 2 rfl; have z3 := Z80.at 3 rfl; have z4 := Z80.at 4 rfl; have z5 := Z80.at 5 rfl; have z6 := Z80.at 6 rfl; have z7 := Z80.at 7 rfl; have y0 := Z80.frozen 0; have y1 := Z80.frozen 1; have y2 := Z80.frozen 2; have y3 := Z80.frozen 3; have y4 := Z80.frozen 4; have y5 := Z80.frozen 5; have y6 := Z80.frozen 6; have y7 := Z80.frozen 7; have tt80 := E80.b.at 0 rfl; have ss80 := S80.at 0 rfl) | (go_at_call 43; (with_reducible refine (bad_any _ rb vb rE1 _ E80.p E80.s).mono ?_); rintro e _ ⟨rfl, rfl⟩))
      have hgo := hgoh.out
      have hend := Lib.hid (fun (v2 : World) (hu : Upd (fun i => i = w.heap.size + 1) w80 v2) => hend0.out w80 hB80 v2 hu)
      have hv := Upd.at8 w80 (w.heap.size + 1) (.int .u8 k) (.string name) (.int .u64 0) (.int .u32 0) (.string ⟨#[]⟩) (.string ⟨#[]⟩) (.slice none 0 0) (.slice none 0 0)
      have K9 := Z80.fresh8 (.int .u8 k) (.string name) (.int .u64 0) (.int .u32 0) (.string ⟨#[]⟩) (.string ⟨#[]⟩) (.slice none 0 0) (.slice none 0 0)
      have R9 := R80
      unfold set8 at hv K9
      have k0 := K9.at 0 rfl; have k1 := K9.at 1 rfl; have k2 := K9.at 2 rfl; have k3 := K9.at 3 rfl; have k4 := K9.at 4 rfl; have k5 := K9.at 5 rfl; have k6 := K9.at 6 rfl; have k7 := K9.at 7 rfl
      refine bodyPost_ret (by simp [results, Tryd.results15, go_sem, k0, k1, k2, k3, k4, k5, k6, k7]; rfl) rfl ?_
      have hTz := hT80.trans (hv.below hT80.size (fun i e => by omega))
      exact ⟨(EnT.mk (k : Int) name (0 : Int) (0, ⟨#[]⟩, ⟨#[]⟩) (.slice none 0 0) (.slice none 0 0) [] []), by rw [hgo]; rfl, by rw [hgo]; exact hqh.out, hend.out _ hv, hTz⟩
    have hgoh := Lib.hid (show egO L = none from egO_no hpq3.out (fun e => hok ⟨e.1, hcxh.out.symm.trans e.2.1, by have h1 := htxh.out; rw [if_pos (hcxh.out.symm.trans e.2.1)] at h1; rw [← h1]; exact en_text.2 (e.2.2.trans hLeh.out.symm)⟩))
    cases bad
    rotate_left 1
    · clear hok
      go_wp2_with (first | (go_at_call 14; refine (hputh.out).mono ?_; rintro e w80 ⟨rfl, hB80⟩; have Z80 := Z9.pure hB80; have E80 := hE.pure hB80; have S80 := S9.pure hB80; have P80 := P9.pure hB80; have R80 := hrd.out.pure hB80; have hT80 := hT9.trans (hB80.mono hT9.size); clear p0 p1 p2 p3 p4 p5 p6 p7; have p0 := P80.at 0 rfl; have p1 := P80.at 1 rfl; have p2 := P80.at 2 rfl; have p3 := P80.at 3 rfl; have p4 := P80.at 4 rfl; have p5 := P80.at 5 rfl; have p6 := P80.at 6 rfl; have p7 := P80.at 7 rfl; have z0 := Z80.at 0 rfl; have z1 := Z80.at 1 rfl; have z2 := Z80.at 2 rfl; have z3 := Z80.at 3 rfl; have z4 := Z80.at 4 rfl; have z5 := Z80.at 5 rfl; have z6 := Z80.at 6 rfl; have z7 := Z80.at 7 rfl; have y0 := Z80.frozen 0; have y1 := Z80.frozen 1; have y2 := Z80.frozen 2; have y3 := Z80.frozen 3; have y4 := Z80.frozen 4; have y5 := Z80.frozen 5; have y6 := Z80.frozen 6; have y7 := Z80.frozen 7; have tt80 := E80.b.at 0 rfl; have ss80 := S80.at 0 rfl) | (go_at_call 43; (with_reducible refine (bad_any _ rb vb rE1 _ E80.p E80.s).mono ?_); rintro e _ ⟨rfl, rfl⟩))
      have hgo := hgoh.out
      have hv := Upd.at8 w80 (w.heap.size + 1) (.int .u8 0) (.string ⟨#[]⟩) (.int .u64 0) (.int .u32 0) (.string ⟨#[]⟩) (.string ⟨#[]⟩) (.slice none 0 0) (.slice none 0 0)
      have K9 := Z80.fresh8 (.int .u8 0) (.string ⟨#[]⟩) (.int .u64 0) (.int .u32 0) (.string ⟨#[]⟩) (.string ⟨#[]⟩) (.slice none 0 0) (.slice none 0 0)
      unfold set8 at hv K9
      have k0 := K9.at 0 rfl; have k1 := K9.at 1 rfl; have k2 := K9.at 2 rfl; have k3 := K9.at 3 rfl; have k4 := K9.at 4 rfl; have k5 := K9.at 5 rfl; have k6 := K9.at 6 rfl; have k7 := K9.at 7 rfl
      refine bodyPost_ret (by simp [results, Tryd.results15, go_sem, k0, k1, k2, k3, k4, k5, k6, k7]; rfl) rfl ?_
      have hTz := hT80.trans (hv.below hT80.size (fun i e => by omega))
      exact ⟨(EnT.mk 0 ⟨#[]⟩ 0 (0, ⟨#[]⟩, ⟨#[]⟩) (.slice none 0 0) (.slice none 0 0) [] []), by rw [hgo]; rfl, by rw [hgo]; rfl, zen_rd, hTz⟩
    by_cases hc : cx = 0
    rotate_left 1
    · have g1 : (cx != 0) = true := bne_iff_ne.2 hc
      have g2 : (cx == 0) = false := beq_eq_false_iff_ne.2 hc
      clear hok hc
      go_wp2_with (first | (go_at_call 14; refine (hputh.out).mono ?_; rintro e w80 ⟨rfl, hB80⟩; have Z80 := Z9.pure hB80; have E80 := hE.pure hB80; have S80 := S9.pure hB80; have P80 := P9.pure hB80; have R80 := hrd.out.pure hB80; have hT80 := hT9.trans (hB80.mono hT9.size); clear p0 p1 p2 p3 p4 p5 p6 p7; have p0 := P80.at 0 rfl; have p1 := P80.at 1 rfl; have p2 := P80.at 2 rfl; have p3 := P80.at 3 rfl; have p4 := P80.at 4 rfl; have p5 := P80.at 5 rfl; have p6 := P80.at 6 rfl; have p7 := P80.at 7 rfl; have z0 := Z80.at 0 rfl; have z1 := Z80.at 1 rfl; have z2 := Z80.at 2 rfl; have z3 := Z80.at 3 rfl; have z4 := Z80.at 4 rfl; have z5 := Z80.at 5 rfl; have z6 := Z80.at 6 rfl; have z7 := Z80.at 7 rfl; have y0 := Z80.frozen 0; have y1 := Z80.frozen 1; have y2 := Z80.frozen 2; have y3 := Z80.frozen 3; have y4 := Z80.frozen 4; have y5 := Z80.frozen 5; have y6 := Z80.frozen 6; have y7 := Z80.frozen 7; have tt80 := E80.b.at 0 rfl; have ss80 := S80.at 0 rfl) | (go_at_call 43; (with_reducible refine (bad_any _ rb vb rE1 _ E80.p E80.s).mono ?_); rintro e _ ⟨rfl, rfl⟩))
      have hgo := hgoh.out
      have hv := Upd.at8 w80 (w.heap.size + 1) (.int .u8 0) (.string ⟨#[]⟩) (.int .u64 0) (.int .u32 0) (.string ⟨#[]⟩) (.string ⟨#[]⟩) (.slice none 0 0) (.slice none 0 0)
      have K9 := Z80.fresh8 (.int .u8 0) (.string ⟨#[]⟩) (.int .u64 0) (.int .u32 0) (.string ⟨#[]⟩) (.string ⟨#[]⟩) (.slice none 0 0) (.slice none 0 0)
      unfold set8 at hv K9
      have k0 := K9.at 0 rfl; have k1 := K9.at 1 rfl; have k2 := K9.at 2 rfl; have k3 := K9.at 3 rfl; have k4 := K9.at 4 rfl; have k5 := K9.at 5 rfl; have k6 := K9.at 6 rfl; have k7 := K9.at 7 rfl
      refine bodyPost_ret (by simp [results, Tryd.results15, go_sem, k0, k1, k2, k3, k4, k5, k6, k7]; rfl) rfl ?_
      have hTz := hT80.trans (hv.below hT80.size (fun i e => by omega))
      exact ⟨(EnT.mk 0 ⟨#[]⟩ 0 (0, ⟨#[]⟩, ⟨#[]⟩) (.slice none 0 0) (.slice none 0 0) [] []), by rw [hgo]; rfl, by rw [hgo]; rfl, zen_rd, hTz⟩
    subst hc
    have hne : tx ≠ s := fun e => hok ⟨rfl, rfl, e⟩
    have g1 : ¬ tx.toList = s.toList := ba_toList_ne hne
    have g2 : (tx.toList == s.toList) = false := beq_eq_false_iff_ne.2 g1
    have g3 : (tx != s) = true := ba_bne hne
    clear hok hne
    go_wp2_with (first | (go_at_call 14; refine (hputh.out).mono ?_; rintro e w80 ⟨rfl, hB80⟩; have Z80 := Z9.pure hB80; have E80 := hE.pure hB80; have S80 := S9.pure hB80; have P80 := P9.pure hB80; have R80 := hrd.out.pure hB80; have hT80 := hT9.trans (hB80.mono hT9.size); clear p0 p1 p2 p3 p4 p5 p6 p7; have p0 := P80.at 0 rfl; have p1 := P80.at 1 rfl; have p2 := P80.at 2 rfl; have p3 := P80.at 3 rfl; have p4 := P80.at 4 rfl; have p5 := P80.at 5 rfl; have p6 := P80.at 6 rfl; have p7 := P80.at 7 rfl; have z0 := Z80.at 0 rfl; have z1 := Z80.at 1 rfl; have z2 := Z80.at 2 rfl; have z3 := Z80.at 3 rfl; have z4 := Z80.at 4 rfl; have z5 := Z80.at 5 rfl; have z6 := Z80.at 6 rfl; have z7 := Z80.at 7 rfl; have y0 := Z80.frozen 0; have y1 := Z80.frozen 1; have y2 := Z80.frozen 2; have y3 := Z80.frozen 3; have y4 := Z80.frozen 4; have y5 := Z80.frozen 5; have y6 := Z80.frozen 6; have y7 := Z80.frozen 7; have tt80 := E80.b.at 0 rfl; have ss80 := S80.at 0 rfl) | (go_at_call 43; (with_reducible refine (bad_any _ rb vb rE1 _ E80.p E80.s).mono ?_); rintro e _ ⟨rfl, rfl⟩))
    have hgo := hgoh.out
    have hv := Upd.at8 w80 (w.heap.size + 1) (.int .u8 0) (.string ⟨#[]⟩) (.int .u64 0) (.int .u32 0) (.string ⟨#[]⟩) (.string ⟨#[]⟩) (.slice none 0 0) (.slice none 0 0)
    have K9 := Z80.fresh8 (.int .u8 0) (.string ⟨#[]⟩) (.int .u64 0) (.int .u32 0) (.string ⟨#[]⟩) (.string ⟨#[]⟩) (.slice none 0 0) (.slice none 0 0)
    unfold set8 at hv K9
    have k0 := K9.at 0 rfl; have k1 := K9.at 1 rfl; have k2 := K9.at 2 rfl; have k3 := K9.at 3 rfl; have k4 := K9.at 4 rfl; have k5 := K9.at 5 rfl; have k6 := K9.at 6 rfl; have k7 := K9.at 7 rfl
    refine bodyPost_ret (by simp [results, Tryd.results15, go_sem, k0, k1, k2, k3, k4, k5, k6, k7]; rfl) rfl ?_
    have hTz := hT80.trans (hv.below hT80.size (fun i e => by omega))
    exact ⟨(EnT.mk 0 ⟨#[]⟩ 0 (0, ⟨#[]⟩, ⟨#[]⟩) (.slice none 0 0) (.slice none 0 0) [] []), by rw [hgo]; rfl, by rw [hgo]; rfl, zen_rd, hTz⟩
  · have nN : uN (k : Int) = true := by unfold uN; rw [h]; rfl
    have nM : uM (k : Int) = true := by unfold uM; rw [h]; rfl
    have nX : uX (k : Int) = false := by unfold uX; rw [h]; rfl
    have nW : uW (k : Int) = false := by unfold uW; rw [h]; rfl
    rw [show (us (k : Int) % 2 == 1) = true from nN] at b1
    rw [show (us (k : Int) / 2 % 2 == 1) = true from nM] at b2
    rw [show (us (k : Int) / 4 % 2 == 1) = false from nX] at b4
    rw [show (us (k : Int) / 8 % 2 == 1) = false from nW] at b8
    obtain ⟨⟨name, ra⟩, hn⟩ : ∃ x, txR 1 255 r1 = x := ⟨_, rfl⟩
    have ln := Lib.hid (show ra.1.length ≤ r1.1.length by have := txR_le 1 255 r1; rw [hn] at this; exact this)
    have hnh := Lib.hid hn
    obtain ⟨⟨n, rc⟩, hm⟩ : ∃ x, nmR 8 ra = x := ⟨_, rfl⟩
    have lm := Lib.hid (show rc.1.length ≤ ra.1.length by have := nmR_le 8 ra; rw [hm] at this; exact this)
    have hmh := Lib.hid hm
    have hpq0 := Lib.hid (hegh.out name ra n rc (0, ⟨#[]⟩, ⟨#[]⟩) rc (([], []), rc) (by rw [nN]; rw [if_pos rfl, hn]) (by rw [nM]; rw [if_pos rfl, hm]) (by rw [nX]; rfl) (by rw [nW]; rfl))
    clear nN nM nX nW hn hm
    obtain ⟨u, hue⟩ : ∃ u, us (k : Int) = u := ⟨_, rfl⟩
    rw [hue] at b1 b2 b4 b8
    try rw [hue]
    clear h hue
    have tt7 := E7.b.at 0 rfl
    go_upto_region 6 with (go_at_call 37; refine (ptext_rs _ rb vb r1 1 255 E7.p E7.s (by omega) E7.l (by unfold Big; omega)).mono ?_; rintro e w8 ⟨he, hs8, hu8⟩; simp only [hnh.out] at he hs8; subst he; have E8 := E7.next hu8 hs8 ln.out; have S8 := S7.upd hu8 (fun e => by have h1 := hvb.out; have h2 := hvt.out; have h3 := hpb.out; unfold Only at e; omega); have Z8 := Z7.upd hu8 (fun e => by have h1 := hvb.out; have h2 := hvt.out; have h3 := hpb.out; unfold Only at e; omega); have P8 := P7.upd hu8 (fun e => by have h1 := hvb.out; have h2 := hvt.out; have h3 := hpb.out; unfold Only at e; omega); have hT8 := below_only hT7 hu8 (by have h1 := hvb.out; omega) hT7.size; have tt8 := E8.b.at 0 rfl; have pp1 := P8.at 1 rfl; have yy1 := P8.frozen 1)
    have hu9 := (upd_set _ w6.heap.size 1 (.string name) (Upd.refl (fun k => k = w6.heap.size) w8) rfl)
    have P9 : Blk _ w6.heap.size [.int .u8 k, .string name, .int .u64 0, .int .u32 0, .string ⟨#[]⟩, .string ⟨#[]⟩, .slice none 0 0, .slice none 0 0] := (P8.set 1 (.string name))
    have E9 := E8.other hu9 (fun k e => by have h3 := hpb.out; omega)
    have S9 := S8.upd hu9 (fun e => by have h1 := hvb.out; have h2 := hvt.out; have h3 := hpb.out; omega)
    have Z9 := Z8.upd hu9 (fun e => by have h1 := hvb.out; have h2 := hvt.out; have h3 := hpb.out; omega)
    have hT9 := hT8.trans (hu9.below hT8.size (fun i e => by have h1 := hvb.out; have h2 := hvt.out; have h3 := hpb.out; omega))
    generalize World.setCell w8 _ _ = w9 at *
    clear pp1 yy1 tt8
    have tt9 := E9.b.at 0 rfl
    go_upto_region 8 with (go_at_call 36; refine (pnum_rs _ rb vb ra 8 E9.p E9.s (by unfold Wd; omega) E9.l).mono ?_; rintro e w10 ⟨he, hs10, hu10⟩; simp only [hmh.out] at he hs10; subst he; have E10 := E9.next hu10 hs10 lm.out; have S10 := S9.upd hu10 (fun e => by have h1 := hvb.out; have h2 := hvt.out; have h3 := hpb.out; unfold Only at e; omega); have Z10 := Z9.upd hu10 (fun e => by have h1 := hvb.out; have h2 := hvt.out; have h3 := hpb.out; unfold Only at e; omega); have P10 := P9.upd hu10 (fun e => by have h1 := hvb.out; have h2 := hvt.out; have h3 := hpb.out; unfold Only at e; omega); have hT10 := below_only hT9 hu10 (by have h1 := hvb.out; omega) hT9.size; have tt10 := E10.b.at 0 rfl; have pp2 := P10.at 2 rfl; have yy2 := P10.frozen 2)
    have hu11 := (upd_set _ w6.heap.size 2 (.int .u64 n) (Upd.refl (fun k => k = w6.heap.size) w10) rfl)
    have P11 : Blk _ w6.heap.size [.int .u8 k, .string name, .int .u64 n, .int .u32 0, .string ⟨#[]⟩, .string ⟨#[]⟩, .slice none 0 0, .slice none 0 0] := (P10.set 2 (.int .u64 n))
    have E11 := E10.other hu11 (fun k e => by have h3 := hpb.out; omega)
    have S11 := S10.upd hu11 (fun e => by have h1 := hvb.out; have h2 := hvt.out; have h3 := hpb.out; omega)
    have Z11 := Z10.upd hu11 (fun e => by have h1 := hvb.out; have h2 := hvt.out; have h3 := hpb.out; omega)
    have hT11 := hT10.trans (hu11.below hT10.size (fun i e => by have h1 := hvb.out; have h2 := hvt.out; have h3 := hpb.out; omega))
    generalize World.setCell w10 _ _ = w11 at *
    clear pp2 yy2 tt10
    have tt11 := E11.b.at 0 rfl
    have hpq := Lib.hid (show egP L = ((EnT.mk (k : Int) name ((n : Nat) : Int) (0, ⟨#[]⟩, ⟨#[]⟩) (.slice none 0 0) (.slice none 0 0) [] []).e, rc) from hpq0.out)
    have hwf := Lib.hid (show (EnT.mk (k : Int) name ((n : Nat) : Int) (0, ⟨#[]⟩, ⟨#[]⟩) (.slice none 0 0) (.slice none 0 0) [] []).e.Wf by have h9 := egP_wf L; rw [hpq.out] at h9; exact h9)
    have hrd := Lib.hid (show EnRd (fun i => w.heap.size ≤ i) w11 (EnT.mk (k : Int) name ((n : Nat) : Int) (0, ⟨#[]⟩, ⟨#[]⟩) (.slice none 0 0) (.slice none 0 0) [] []) from ⟨Slc.nil _ _ _, (fun i e => by cases e), (fun x hx => absurd hx (by simp)), Slc.nil _ _ _, (fun i e => by cases e), hwf.out⟩)
    obtain ⟨q, hq⟩ : ∃ q, (EnT.mk (k : Int) name ((n : Nat) : Int) (0, ⟨#[]⟩, ⟨#[]⟩) (.slice none 0 0) (.slice none 0 0) [] []).e = q := ⟨_, rfl⟩
    have hput := eput_any (EnT.mk (k : Int) name ((n : Nat) : Int) (0, ⟨#[]⟩, ⟨#[]⟩) (.slice none 0 0) (.slice none 0 0) [] []) (fun i => w.heap.size ≤ i) w11 hrd.out (hT.pure hT11)
    obtain ⟨cx, hcx⟩ : ∃ cx, q.chk = cx := ⟨_, rfl⟩
    obtain ⟨tx, htx⟩ : ∃ tx, (if cx = 0 then q.text else (⟨#[]⟩ : ByteArray)) = tx := ⟨_, rfl⟩
    rw [hq, hcx, htx, EnT.arg_mk] at hput
    have hpqq := hpq.out
    rw [hq] at hpqq
    have hpq2 := Lib.hid hpqq
    have hputh := Lib.hid hput; have hqh := Lib.hid hq; have hcxh := Lib.hid hcx; have htxh := Lib.hid htx
    clear hput hq hcx htx hpqq
    obtain ⟨⟨rE1, bad⟩, hrE⟩ : ∃ x, rc = x := ⟨_, rfl⟩
    have hpq3 := hpq2.out
    rw [hrE] at hpq3
    have hpq3 := Lib.hid hpq3
    have hE := E11
    rw [hrE] at hE
    clear hrE
    have p0 := P11.at 0 rfl; have p1 := P11.at 1 rfl; have p2 := P11.at 2 rfl; have p3 := P11.at 3 rfl; have p4 := P11.at 4 rfl; have p5 := P11.at 5 rfl; have p6 := P11.at 6 rfl; have p7 := P11.at 7 rfl
    have hend0 := Lib.hid (fun (v : World) (hB : Below w11.heap.size w11 v) (v2 : World) (hu : Upd (fun i => i = w.heap.size + 1) v v2) => show EnRd (fun i => w.heap.size ≤ i) v2 (EnT.mk (k : Int) name ((n : Nat) : Int) (0, ⟨#[]⟩, ⟨#[]⟩) (.slice none 0 0) (.slice none 0 0) [] []) from ⟨Slc.nil _ _ _, (fun i e => by cases e), (fun x hx => absurd hx (by simp)), Slc.nil _ _ _, (fun i e => by cases e), hwf.out⟩)
    by_cases hok : bad = false ∧ cx = 0 ∧ tx = s
    · obtain ⟨rfl, rfl, rfl⟩ := hok
      have hgoh := Lib.hid (egO_ok hpq3.out rfl hcxh.out (by have h1 := htxh.out; rw [if_pos rfl] at h1; exact (en_text.1 h1).trans hLeh.out))
      go_wp2_with (first | (go_at_call 14; refine (hputh.out).mono ?_; rintro e w80 ⟨rfl, hB80⟩; have Z80 := Z11.pure hB80; have E80 := hE.pure hB80; have S80 := S11.pure hB80; have P80 := P11.pure hB80; have R80 := hrd.out.pure hB80; have hT80 := hT11.trans (hB80.mono hT11.size); clear p0 p1 p2 p3 p4 p5 p6 p7; have p0 := P80.at 0 rfl; have p1 := P80.at 1 rfl; have p2 := P80.at 2 rfl; have p3 := P80.at 3 rfl; have p4 := P80.at 4 rfl; have p5 := P80.at 5 rfl; have p6 := P80.at 6 rfl; have p7 := P80.at 7 rfl; have z0 := Z80.at 0 rfl; have z1 := Z80.at 1 rfl; have z2 := Z80.at 2 rfl; have z3 := Z80.at 3 rfl; have z4 := Z80.at 4 rfl; have z5 := Z80.at 5 rfl; have z6 := Z80.at 6 rfl; have z7 := Z80.at 7 rfl; have y0 := Z80.frozen 0; have y1 := Z80.frozen 1; have y2 := Z80.frozen 2; have y3 := Z80.frozen 3; have y4 := Z80.frozen 4; have y5 := Z80.frozen 5; have y6 := Z80.frozen 6; have y7 := Z80.frozen 7; have tt80 := E80.b.at 0 rfl; have ss80 := S80.at 0 rfl) | (go_at_call 43; (with_reducible refine (bad_any _ rb vb rE1 _ E80.p E80.s).mono ?_); rintro e _ ⟨rfl, rfl⟩))
      have hgo := hgoh.out
      have hend := Lib.hid (fun (v2 : World) (hu : Upd (fun i => i = w.heap.size + 1) w80 v2) => hend0.out w80 hB80 v2 hu)
      have hv := Upd.at8 w80 (w.heap.size + 1) (.int .u8 k) (.string name) (.int .u64 n) (.int .u32 0) (.string ⟨#[]⟩) (.string ⟨#[]⟩) (.slice none 0 0) (.slice none 0 0)
      have K9 := Z80.fresh8 (.int .u8 k) (.string name) (.int .u64 n) (.int .u32 0) (.string ⟨#[]⟩) (.string ⟨#[]⟩) (.slice none 0 0) (.slice none 0 0)
      have R9 := R80
      unfold set8 at hv K9
      have k0 := K9.at 0 rfl; have k1 := K9.at 1 rfl; have k2 := K9.at 2 rfl; have k3 := K9.at 3 rfl; have k4 := K9.at 4 rfl; have k5 := K9.at 5 rfl; have k6 := K9.at 6 rfl; have k7 := K9.at 7 rfl
      refine bodyPost_ret (by simp [results, Tryd.results15, go_sem, k0, k1, k2, k3, k4, k5, k6, k7]; rfl) rfl ?_
      have hTz := hT80.trans (hv.below hT80.size (fun i e => by omega))
      exact ⟨(EnT.mk (k : Int) name ((n : Nat) : Int) (0, ⟨#[]⟩, ⟨#[]⟩) (.slice none 0 0) (.slice none 0 0) [] []), by rw [hgo]; rfl, by rw [hgo]; exact hqh.out, hend.out _ hv, hTz⟩
    have hgoh := Lib.hid (show egO L = none from egO_no hpq3.out (fun e => hok ⟨e.1, hcxh.out.symm.trans e.2.1, by have h1 := htxh.out; rw [if_pos (hcxh.out.symm.trans e.2.1)] at h1; rw [← h1]; exact en_text.2 (e.2.2.trans hLeh.out.symm)⟩))
    cases bad
    rotate_left 1
    · clear hok
      go_wp2_with (first | (go_at_call 14; refine (hputh.out).mono ?_; rintro e w80 ⟨rfl, hB80⟩; have Z80 := Z11.pure hB80; have E80 := hE.pure hB80; have S80 := S11.pure hB80; have P80 := P11.pure hB80; have R80 := hrd.out.pure hB80; have hT80 := hT11.trans (hB80.mono hT11.size); clear p0 p1 p2 p3 p4 p5 p6 p7; have p0 := P80.at 0 rfl; have p1 := P80.at 1 rfl; have p2 := P80.at 2 rfl; have p3 := P80.at 3 rfl; have p4 := P80.at 4 rfl; have p5 := P80.at 5 rfl; have p6 := P80.at 6 rfl; have p7 := P80.at 7 rfl; have z0 := Z80.at 0 rfl; have z1 := Z80.at 1 rfl; have z2 := Z80.at 2 rfl; have z3 := Z80.at 3 rfl; have z4 := Z80.at 4 rfl; have z5 := Z80.at 5 rfl; have z6 := Z80.at 6 rfl; have z7 := Z80.at 7 rfl; have y0 := Z80.frozen 0; have y1 := Z80.frozen 1; have y2 := Z80.frozen 2; have y3 := Z80.frozen 3; have y4 := Z80.frozen 4; have y5 := Z80.frozen 5; have y6 := Z80.frozen 6; have y7 := Z80.frozen 7; have tt80 := E80.b.at 0 rfl; have ss80 := S80.at 0 rfl) | (go_at_call 43; (with_reducible refine (bad_any _ rb vb rE1 _ E80.p E80.s).mono ?_); rintro e _ ⟨rfl, rfl⟩))
      have hgo := hgoh.out
      have hv := Upd.at8 w80 (w.heap.size + 1) (.int .u8 0) (.string ⟨#[]⟩) (.int .u64 0) (.int .u32 0) (.string ⟨#[]⟩) (.string ⟨#[]⟩) (.slice none 0 0) (.slice none 0 0)
      have K9 := Z80.fresh8 (.int .u8 0) (.string ⟨#[]⟩) (.int .u64 0) (.int .u32 0) (.string ⟨#[]⟩) (.string ⟨#[]⟩) (.slice none 0 0) (.slice none 0 0)
      unfold set8 at hv K9
      have k0 := K9.at 0 rfl; have k1 := K9.at 1 rfl; have k2 := K9.at 2 rfl; have k3 := K9.at 3 rfl; have k4 := K9.at 4 rfl; have k5 := K9.at 5 rfl; have k6 := K9.at 6 rfl; have k7 := K9.at 7 rfl
      refine bodyPost_ret (by simp [results, Tryd.results15, go_sem, k0, k1, k2, k3, k4, k5, k6, k7]; rfl) rfl ?_
      have hTz := hT80.trans (hv.below hT80.size (fun i e => by omega))
      exact ⟨(EnT.mk 0 ⟨#[]⟩ 0 (0, ⟨#[]⟩, ⟨#[]⟩) (.slice none 0 0) (.slice none 0 0) [] []), by rw [hgo]; rfl, by rw [hgo]; rfl, zen_rd, hTz⟩
    by_cases hc : cx = 0
    rotate_left 1
    · have g1 : (cx != 0) = true := bne_iff_ne.2 hc
      have g2 : (cx == 0) = false := beq_eq_false_iff_ne.2 hc
      clear hok hc
      go_wp2_with (first | (go_at_call 14; refine (hputh.out).mono ?_; rintro e w80 ⟨rfl, hB80⟩; have Z80 := Z11.pure hB80; have E80 := hE.pure hB80; have S80 := S11.pure hB80; have P80 := P11.pure hB80; have R80 := hrd.out.pure hB80; have hT80 := hT11.trans (hB80.mono hT11.size); clear p0 p1 p2 p3 p4 p5 p6 p7; have p0 := P80.at 0 rfl; have p1 := P80.at 1 rfl; have p2 := P80.at 2 rfl; have p3 := P80.at 3 rfl; have p4 := P80.at 4 rfl; have p5 := P80.at 5 rfl; have p6 := P80.at 6 rfl; have p7 := P80.at 7 rfl; have z0 := Z80.at 0 rfl; have z1 := Z80.at 1 rfl; have z2 := Z80.at 2 rfl; have z3 := Z80.at 3 rfl; have z4 := Z80.at 4 rfl; have z5 := Z80.at 5 rfl; have z6 := Z80.at 6 rfl; have z7 := Z80.at 7 rfl; have y0 := Z80.frozen 0; have y1 := Z80.frozen 1; have y2 := Z80.frozen 2; have y3 := Z80.frozen 3; have y4 := Z80.frozen 4; have y5 := Z80.frozen 5; have y6 := Z80.frozen 6; have y7 := Z80.frozen 7; have tt80 := E80.b.at 0 rfl; have ss80 := S80.at 0 rfl) | (go_at_call 43; (with_reducible refine (bad_any _ rb vb rE1 _ E80.p E80.s).mono ?_); rintro e _ ⟨rfl, rfl⟩))
      have hgo := hgoh.out
      have hv := Upd.at8 w80 (w.heap.size + 1) (.int .u8 0) (.string ⟨#[]⟩) (.int .u64 0) (.int .u32 0) (.string ⟨#[]⟩) (.string ⟨#[]⟩) (.slice none 0 0) (.slice none 0 0)
      have K9 := Z80.fresh8 (.int .u8 0) (.string ⟨#[]⟩) (.int .u64 0) (.int .u32 0) (.string ⟨#[]⟩) (.string ⟨#[]⟩) (.slice none 0 0) (.slice none 0 0)
      unfold set8 at hv K9
      have k0 := K9.at 0 rfl; have k1 := K9.at 1 rfl; have k2 := K9.at 2 rfl; have k3 := K9.at 3 rfl; have k4 := K9.at 4 rfl; have k5 := K9.at 5 rfl; have k6 := K9.at 6 rfl; have k7 := K9.at 7 rfl
      refine bodyPost_ret (by simp [results, Tryd.results15, go_sem, k0, k1, k2, k3, k4, k5, k6, k7]; rfl) rfl ?_
      have hTz := hT80.trans (hv.below hT80.size (fun i e => by omega))
      exact ⟨(EnT.mk 0 ⟨#[]⟩ 0 (0, ⟨#[]⟩, ⟨#[]⟩) (.slice none 0 0) (.slice none 0 0) [] []), by rw [hgo]; rfl, by rw [hgo]; rfl, zen_rd, hTz⟩
    subst hc
    have hne : tx ≠ s := fun e => hok ⟨rfl, rfl, e⟩
    have g1 : ¬ tx.toList = s.toList := ba_toList_ne hne
    have g2 : (tx.toList == s.toList) = false := beq_eq_false_iff_ne.2 g1
    have g3 : (tx != s) = true := ba_bne hne
    clear hok hne
    go_wp2_with (first | (go_at_call 14; refine (hputh.out).mono ?_; rintro e w80 ⟨rfl, hB80⟩; have Z80 := Z11.pure hB80; have E80 := hE.pure hB80; have S80 := S11.pure hB80; have P80 := P11.pure hB80; have R80 := hrd.out.pure hB80; have hT80 := hT11.trans (hB80.mono hT11.size); clear p0 p1 p2 p3 p4 p5 p6 p7; have p0 := P80.at 0 rfl; have p1 := P80.at 1 rfl; have p2 := P80.at 2 rfl; have p3 := P80.at 3 rfl; have p4 := P80.at 4 rfl; have p5 := P80.at 5 rfl; have p6 := P80.at 6 rfl; have p7 := P80.at 7 rfl; have z0 := Z80.at 0 rfl; have z1 := Z80.at 1 rfl; have z2 := Z80.at 2 rfl; have z3 := Z80.at 3 rfl; have z4 := Z80.at 4 rfl; have z5 := Z80.at 5 rfl; have z6 := Z80.at 6 rfl; have z7 := Z80.at 7 rfl; have y0 := Z80.frozen 0; have y1 := Z80.frozen 1; have y2 := Z80.frozen 2; have y3 := Z80.frozen 3; have y4 := Z80.frozen 4; have y5 := Z80.frozen 5; have y6 := Z80.frozen 6; have y7 := Z80.frozen 7; have tt80 := E80.b.at 0 rfl; have ss80 := S80.at 0 rfl) | (go_at_call 43; (with_reducible refine (bad_any _ rb vb rE1 _ E80.p E80.s).mono ?_); rintro e _ ⟨rfl, rfl⟩))
    have hgo := hgoh.out
    have hv := Upd.at8 w80 (w.heap.size + 1) (.int .u8 0) (.string ⟨#[]⟩) (.int .u64 0) (.int .u32 0) (.string ⟨#[]⟩) (.string ⟨#[]⟩) (.slice none 0 0) (.slice none 0 0)
    have K9 := Z80.fresh8 (.int .u8 0) (.string ⟨#[]⟩) (.int .u64 0) (.int .u32 0) (.string ⟨#[]⟩) (.string ⟨#[]⟩) (.slice none 0 0) (.slice none 0 0)
    unfold set8 at hv K9
    have k0 := K9.at 0 rfl; have k1 := K9.at 1 rfl; have k2 := K9.at 2 rfl; have k3 := K9.at 3 rfl; have k4 := K9.at 4 rfl; have k5 := K9.at 5 rfl; have k6 := K9.at 6 rfl; have k7 := K9.at 7 rfl
    refine bodyPost_ret (by simp [results, Tryd.results15, go_sem, k0, k1, k2, k3, k4, k5, k6, k7]; rfl) rfl ?_
    have hTz := hT80.trans (hv.below hT80.size (fun i e => by omega))
    exact ⟨(EnT.mk 0 ⟨#[]⟩ 0 (0, ⟨#[]⟩, ⟨#[]⟩) (.slice none 0 0) (.slice none 0 0) [] []), by rw [hgo]; rfl, by rw [hgo]; rfl, zen_rd, hTz⟩
  · have nN : uN (k : Int) = false := by unfold uN; rw [h]; rfl
    have nM : uM (k : Int) = false := by unfold uM; rw [h]; rfl
    have nX : uX (k : Int) = true := by unfold uX; rw [h]; rfl
    have nW : uW (k : Int) = false := by unfold uW; rw [h]; rfl
    rw [show (us (k : Int) % 2 == 1) = false from nN] at b1
    rw [show (us (k : Int) / 2 % 2 == 1) = false from nM] at b2
    rw [show (us (k : Int) / 4 % 2 == 1) = true from nX] at b4
    rw [show (us (k : Int) / 8 % 2 == 1) = false from nW] at b8
    obtain ⟨⟨xf, rx1⟩, hx1⟩ : ∃ x, nmR 4 r1 = x := ⟨_, rfl⟩
    obtain ⟨⟨xg, rx2⟩, hx2⟩ : ∃ x, txR 1 255 rx1 = x := ⟨_, rfl⟩
    obtain ⟨⟨xb, rx3⟩, hx3⟩ : ∃ x, txR 1 255 rx2 = x := ⟨_, rfl⟩
    have lx1 := Lib.hid (show rx1.1.length ≤ r1.1.length by have := nmR_le 4 r1; rw [hx1] at this; exact this)
    have lx2 := Lib.hid (show rx2.1.length ≤ rx1.1.length by have := txR_le 1 255 rx1; rw [hx2] at this; exact this)
    have lx3 := Lib.hid (show rx3.1.length ≤ rx2.1.length by have := txR_le 1 255 rx2; rw [hx3] at this; exact this)
    have hxl : xf < 4294967296 := by have := nmR_lt 4 r1; rw [hx1] at this; exact this
    have hxw : IntKind.u32.wrap (xf : Int) = (xf : Int) := u32_wrap _ (by omega) (by omega)
    have hx1h := Lib.hid hx1; have hx2h := Lib.hid hx2; have hx3h := Lib.hid hx3
    have hpq0 := Lib.hid (hegh.out ⟨#[]⟩ r1 0 r1 (xf, xg, xb) rx3 (([], []), rx3) (by rw [nN]; rfl) (by rw [nM]; rfl) (by rw [nX]; rw [if_pos rfl]; unfold rdX; rw [hx1]; dsimp only; rw [hx2]; dsimp only; rw [hx3]) (by rw [nW]; rfl))
    clear nN nM nX nW hx1 hx2 hx3 hxl
    obtain ⟨u, hue⟩ : ∃ u, us (k : Int) = u := ⟨_, rfl⟩
    rw [hue] at b1 b2 b4 b8
    try rw [hue]
    clear h hue
    have tt7 := E7.b.at 0 rfl
    go_upto_region 12 with (first | (go_at_call 36; refine (pnum_rs _ rb vb r1 4 E7.p E7.s (by unfold Wd; omega) E7.l).mono ?_; rintro e w8 ⟨he, hs8, hu8⟩; simp only [hx1h.out] at he hs8; subst he; have E8 := E7.next hu8 hs8 lx1.out; have S8 := S7.upd hu8 (fun e => by have h1 := hvb.out; have h2 := hvt.out; have h3 := hpb.out; unfold Only at e; omega); have Z8 := Z7.upd hu8 (fun e => by have h1 := hvb.out; have h2 := hvt.out; have h3 := hpb.out; unfold Only at e; omega); have P8 := P7.upd hu8 (fun e => by have h1 := hvb.out; have h2 := hvt.out; have h3 := hpb.out; unfold Only at e; omega); have hT8 := below_only hT7 hu8 (by have h1 := hvb.out; omega) hT7.size; have tt8 := E8.b.at 0 rfl) | (go_at_call 37; refine (ptext_rs _ rb vb rx1 1 255 E8.p E8.s (by omega) E8.l (by unfold Big; omega)).mono ?_; rintro e w9 ⟨he, hs9, hu9⟩; simp only [hx2h.out] at he hs9; subst he; have E9 := E8.next hu9 hs9 lx2.out; have S9 := S8.upd hu9 (fun e => by have h1 := hvb.out; have h2 := hvt.out; have h3 := hpb.out; unfold Only at e; omega); have Z9 := Z8.upd hu9 (fun e => by have h1 := hvb.out; have h2 := hvt.out; have h3 := hpb.out; unfold Only at e; omega); have P9 := P8.upd hu9 (fun e => by have h1 := hvb.out; have h2 := hvt.out; have h3 := hpb.out; unfold Only at e; omega); have hT9 := below_only hT8 hu9 (by have h1 := hvb.out; omega) hT8.size; have tt9 := E9.b.at 0 rfl) | (go_at_call 37; refine (ptext_rs _ rb vb rx2 1 255 E9.p E9.s (by omega) E9.l (by unfold Big; omega)).mono ?_; rintro e w10 ⟨he, hs10, hu10⟩; simp only [hx3h.out] at he hs10; subst he; have E10 := E9.next hu10 hs10 lx3.out; have S10 := S9.upd hu10 (fun e => by have h1 := hvb.out; have h2 := hvt.out; have h3 := hpb.out; unfold Only at e; omega); have Z10 := Z9.upd hu10 (fun e => by have h1 := hvb.out; have h2 := hvt.out; have h3 := hpb.out; unfold Only at e; omega); have P10 := P9.upd hu10 (fun e => by have h1 := hvb.out; have h2 := hvt.out; have h3 := hpb.out; unfold Only at e; omega); have hT10 := below_only hT9 hu10 (by have h1 := hvb.out; omega) hT9.size; have tt10 := E10.b.at 0 rfl; have pp3 := P10.at 3 rfl; have yy3 := P10.frozen 3; have pp4 := P10.at 4 rfl; have yy4 := P10.frozen 4; have pp5 := P10.at 5 rfl; have yy5 := P10.frozen 5))
    have hu11 := (upd_set _ w6.heap.size 5 (.string xb) ((upd_set _ w6.heap.size 4 (.string xg) ((upd_set _ w6.heap.size 3 (.int .u32 xf) (Upd.refl (fun k => k = w6.heap.size) w10) rfl)) rfl)) rfl)
    have P11 : Blk _ w6.heap.size [.int .u8 k, .string ⟨#[]⟩, .int .u64 0, .int .u32 xf, .string xg, .string xb, .slice none 0 0, .slice none 0 0] := (((P10.set 3 (.int .u32 xf)).set 4 (.string xg)).set 5 (.string xb))
    have E11 := E10.other hu11 (fun k e => by have h3 := hpb.out; omega)
    have S11 := S10.upd hu11 (fun e => by have h1 := hvb.out; have h2 := hvt.out; have h3 := hpb.out; omega)
    have Z11 := Z10.upd hu11 (fun e => by have h1 := hvb.out; have h2 := hvt.out; have h3 := hpb.out; omega)
    have hT11 := hT10.trans (hu11.below hT10.size (fun i e => by have h1 := hvb.out; have h2 := hvt.out; have h3 := hpb.out; omega))
    generalize World.setCell (World.setCell (World.setCell w10 _ _) _ _) _ _ = w11 at *
    clear pp3 yy3 pp4 yy4 pp5 yy5 tt10
    have tt11 := E11.b.at 0 rfl
    try clear tt8 tt9
    have hpq := Lib.hid (show egP L = ((EnT.mk (k : Int) ⟨#[]⟩ (0 : Int) ((xf : Int), xg, xb) (.slice none 0 0) (.slice none 0 0) [] []).e, rx3) from hpq0.out)
    have hwf := Lib.hid (show (EnT.mk (k : Int) ⟨#[]⟩ (0 : Int) ((xf : Int), xg, xb) (.slice none 0 0) (.slice none 0 0) [] []).e.Wf by have h9 := egP_wf L; rw [hpq.out] at h9; exact h9)
    have hrd := Lib.hid (show EnRd (fun i => w.heap.size ≤ i) w11 (EnT.mk (k : Int) ⟨#[]⟩ (0 : Int) ((xf : Int), xg, xb) (.slice none 0 0) (.slice none 0 0) [] []) from ⟨Slc.nil _ _ _, (fun i e => by cases e), (fun x hx => absurd hx (by simp)), Slc.nil _ _ _, (fun i e => by cases e), hwf.out⟩)
    obtain ⟨q, hq⟩ : ∃ q, (EnT.mk (k : Int) ⟨#[]⟩ (0 : Int) ((xf : Int), xg, xb) (.slice none 0 0) (.slice none 0 0) [] []).e = q := ⟨_, rfl⟩
    have hput := eput_any (EnT.mk (k : Int) ⟨#[]⟩ (0 : Int) ((xf : Int), xg, xb) (.slice none 0 0) (.slice none 0 0) [] []) (fun i => w.heap.size ≤ i) w11 hrd.out (hT.pure hT11)
    obtain ⟨cx, hcx⟩ : ∃ cx, q.chk = cx := ⟨_, rfl⟩
    obtain ⟨tx, htx⟩ : ∃ tx, (if cx = 0 then q.text else (⟨#[]⟩ : ByteArray)) = tx := ⟨_, rfl⟩
    rw [hq, hcx, htx, EnT.arg_mk] at hput
    have hpqq := hpq.out
    rw [hq] at hpqq
    have hpq2 := Lib.hid hpqq
    have hputh := Lib.hid hput; have hqh := Lib.hid hq; have hcxh := Lib.hid hcx; have htxh := Lib.hid htx
    clear hput hq hcx htx hpqq
    obtain ⟨⟨rE1, bad⟩, hrE⟩ : ∃ x, rx3 = x := ⟨_, rfl⟩
    have hpq3 := hpq2.out
    rw [hrE] at hpq3
    have hpq3 := Lib.hid hpq3
    have hE := E11
    rw [hrE] at hE
    clear hrE
    have p0 := P11.at 0 rfl; have p1 := P11.at 1 rfl; have p2 := P11.at 2 rfl; have p3 := P11.at 3 rfl; have p4 := P11.at 4 rfl; have p5 := P11.at 5 rfl; have p6 := P11.at 6 rfl; have p7 := P11.at 7 rfl
    have hend0 := Lib.hid (fun (v : World) (hB : Below w11.heap.size w11 v) (v2 : World) (hu : Upd (fun i => i = w.heap.size + 1) v v2) => show EnRd (fun i => w.heap.size ≤ i) v2 (EnT.mk (k : Int) ⟨#[]⟩ (0 : Int) ((xf : Int), xg, xb) (.slice none 0 0) (.slice none 0 0) [] []) from ⟨Slc.nil _ _ _, (fun i e => by cases e), (fun x hx => absurd hx (by simp)), Slc.nil _ _ _, (fun i e => by cases e), hwf.out⟩)
    by_cases hok : bad = false ∧ cx = 0 ∧ tx = s
    · obtain ⟨rfl, rfl, rfl⟩ := hok
      have hgoh := Lib.hid (egO_ok hpq3.out rfl hcxh.out (by have h1 := htxh.out; rw [if_pos rfl] at h1; exact (en_text.1 h1).trans hLeh.out))
      go_wp2_with (first | (go_at_call 14; refine (hputh.out).mono ?_; rintro e w80 ⟨rfl, hB80⟩; have Z80 := Z11.pure hB80; have E80 := hE.pure hB80; have S80 := S11.pure hB80; have P80 := P11.pure hB80; have R80 := hrd.out.pure hB80; have hT80 := hT11.trans (hB80.mono hT11.size); clear p0 p1 p2 p3 p4 p5 p6 p7; have p0 := P80.at 0 rfl; have p1 := P80.at 1 rfl; have p2 := P80.at 2 rfl; have p3 := P80.at 3 rfl; have p4 := P80.at 4 rfl; have p5 := P80.at 5 rfl; have p6 := P80.at 6 rfl; have p7 := P80.at 7 rfl; have z0 := Z80.at 0 rfl; have z1 := Z80.at 1 rfl; have z2 := Z80.at 2 rfl; have z3 := Z80.at 3 rfl; have z4 := Z80.at 4 rfl; have z5 := Z80.at 5 rfl; have z6 := Z80.at 6 rfl; have z7 := Z80.at 7 rfl; have y0 := Z80.frozen 0; have y1 := Z80.frozen 1; have y2 := Z80.frozen 2; have y3 := Z80.frozen 3; have y4 := Z80.frozen 4; have y5 := Z80.frozen 5; have y6 := Z80.frozen 6; have y7 := Z80.frozen 7; have tt80 := E80.b.at 0 rfl; have ss80 := S80.at 0 rfl) | (go_at_call 43; (with_reducible refine (bad_any _ rb vb rE1 _ E80.p E80.s).mono ?_); rintro e _ ⟨rfl, rfl⟩))
      have hgo := hgoh.out
      have hend := Lib.hid (fun (v2 : World) (hu : Upd (fun i => i = w.heap.size + 1) w80 v2) => hend0.out w80 hB80 v2 hu)
      have hv := Upd.at8 w80 (w.heap.size + 1) (.int .u8 k) (.string ⟨#[]⟩) (.int .u64 0) (.int .u32 xf) (.string xg) (.string xb) (.slice none 0 0) (.slice none 0 0)
      have K9 := Z80.fresh8 (.int .u8 k) (.string ⟨#[]⟩) (.int .u64 0) (.int .u32 xf) (.string xg) (.string xb) (.slice none 0 0) (.slice none 0 0)
      have R9 := R80
      unfold set8 at hv K9
      have k0 := K9.at 0 rfl; have k1 := K9.at 1 rfl; have k2 := K9.at 2 rfl; have k3 := K9.at 3 rfl; have k4 := K9.at 4 rfl; have k5 := K9.at 5 rfl; have k6 := K9.at 6 rfl; have k7 := K9.at 7 rfl
      refine bodyPost_ret (by simp [results, Tryd.results15, go_sem, k0, k1, k2, k3, k4, k5, k6, k7]; rfl) rfl ?_
      have hTz := hT80.trans (hv.below hT80.size (fun i e => by omega))
      exact ⟨(EnT.mk (k : Int) ⟨#[]⟩ (0 : Int) ((xf : Int), xg, xb) (.slice none 0 0) (.slice none 0 0) [] []), by rw [hgo]; rfl, by rw [hgo]; exact hqh.out, hend.out _ hv, hTz⟩
    have hgoh := Lib.hid (show egO L = none from egO_no hpq3.out (fun e => hok ⟨e.1, hcxh.out.symm.trans e.2.1, by have h1 := htxh.out; rw [if_pos (hcxh.out.symm.trans e.2.1)] at h1; rw [← h1]; exact en_text.2 (e.2.2.trans hLeh.out.symm)⟩))
    cases bad
    rotate_left 1
    · clear hok
      go_wp2_with (first | (go_at_call 14; refine (hputh.out).mono ?_; rintro e w80 ⟨rfl, hB80⟩; have Z80 := Z11.pure hB80; have E80 := hE.pure hB80; have S80 := S11.pure hB80; have P80 := P11.pure hB80; have R80 := hrd.out.pure hB80; have hT80 := hT11.trans (hB80.mono hT11.size); clear p0 p1 p2 p3 p4 p5 p6 p7; have p0 := P80.at 0 rfl; have p1 := P80.at 1 rfl; have p2 := P80.at 2 rfl; have p3 := P80.at 3 rfl; have p4 := P80.at 4 rfl; have p5 := P80.at 5 rfl; have p6 := P80.at 6 rfl; have p7 := P80.at 7 rfl; have z0 := Z80.at 0 rfl; have z1 := Z80.at 1 rfl; have z2 := Z80.at 2 rfl; have z3 := Z80.at 3 rfl; have z4 := Z80.at 4 rfl; have z5 := Z80.at 5 rfl; have z6 := Z80.at 6 rfl; have z7 := Z80.at 7 rfl; have y0 := Z80.frozen 0; have y1 := Z80.frozen 1; have y2 := Z80.frozen 2; have y3 := Z80.frozen 3; have y4 := Z80.frozen 4; have y5 := Z80.frozen 5; have y6 := Z80.frozen 6; have y7 := Z80.frozen 7; have tt80 := E80.b.at 0 rfl; have ss80 := S80.at 0 rfl) | (go_at_call 43; (with_reducible refine (bad_any _ rb vb rE1 _ E80.p E80.s).mono ?_); rintro e _ ⟨rfl, rfl⟩))
      have hgo := hgoh.out
      have hv := Upd.at8 w80 (w.heap.size + 1) (.int .u8 0) (.string ⟨#[]⟩) (.int .u64 0) (.int .u32 0) (.string ⟨#[]⟩) (.string ⟨#[]⟩) (.slice none 0 0) (.slice none 0 0)
      have K9 := Z80.fresh8 (.int .u8 0) (.string ⟨#[]⟩) (.int .u64 0) (.int .u32 0) (.string ⟨#[]⟩) (.string ⟨#[]⟩) (.slice none 0 0) (.slice none 0 0)
      unfold set8 at hv K9
      have k0 := K9.at 0 rfl; have k1 := K9.at 1 rfl; have k2 := K9.at 2 rfl; have k3 := K9.at 3 rfl; have k4 := K9.at 4 rfl; have k5 := K9.at 5 rfl; have k6 := K9.at 6 rfl; have k7 := K9.at 7 rfl
      refine bodyPost_ret (by simp [results, Tryd.results15, go_sem, k0, k1, k2, k3, k4, k5, k6, k7]; rfl) rfl ?_
      have hTz := hT80.trans (hv.below hT80.size (fun i e => by omega))
      exact ⟨(EnT.mk 0 ⟨#[]⟩ 0 (0, ⟨#[]⟩, ⟨#[]⟩) (.slice none 0 0) (.slice none 0 0) [] []), by rw [hgo]; rfl, by rw [hgo]; rfl, zen_rd, hTz⟩
    by_cases hc : cx = 0
    rotate_left 1
    · have g1 : (cx != 0) = true := bne_iff_ne.2 hc
      have g2 : (cx == 0) = false := beq_eq_false_iff_ne.2 hc
      clear hok hc
      go_wp2_with (first | (go_at_call 14; refine (hputh.out).mono ?_; rintro e w80 ⟨rfl, hB80⟩; have Z80 := Z11.pure hB80; have E80 := hE.pure hB80; have S80 := S11.pure hB80; have P80 := P11.pure hB80; have R80 := hrd.out.pure hB80; have hT80 := hT11.trans (hB80.mono hT11.size); clear p0 p1 p2 p3 p4 p5 p6 p7; have p0 := P80.at 0 rfl; have p1 := P80.at 1 rfl; have p2 := P80.at 2 rfl; have p3 := P80.at 3 rfl; have p4 := P80.at 4 rfl; have p5 := P80.at 5 rfl; have p6 := P80.at 6 rfl; have p7 := P80.at 7 rfl; have z0 := Z80.at 0 rfl; have z1 := Z80.at 1 rfl; have z2 := Z80.at 2 rfl; have z3 := Z80.at 3 rfl; have z4 := Z80.at 4 rfl; have z5 := Z80.at 5 rfl; have z6 := Z80.at 6 rfl; have z7 := Z80.at 7 rfl; have y0 := Z80.frozen 0; have y1 := Z80.frozen 1; have y2 := Z80.frozen 2; have y3 := Z80.frozen 3; have y4 := Z80.frozen 4; have y5 := Z80.frozen 5; have y6 := Z80.frozen 6; have y7 := Z80.frozen 7; have tt80 := E80.b.at 0 rfl; have ss80 := S80.at 0 rfl) | (go_at_call 43; (with_reducible refine (bad_any _ rb vb rE1 _ E80.p E80.s).mono ?_); rintro e _ ⟨rfl, rfl⟩))
      have hgo := hgoh.out
      have hv := Upd.at8 w80 (w.heap.size + 1) (.int .u8 0) (.string ⟨#[]⟩) (.int .u64 0) (.int .u32 0) (.string ⟨#[]⟩) (.string ⟨#[]⟩) (.slice none 0 0) (.slice none 0 0)
      have K9 := Z80.fresh8 (.int .u8 0) (.string ⟨#[]⟩) (.int .u64 0) (.int .u32 0) (.string ⟨#[]⟩) (.string ⟨#[]⟩) (.slice none 0 0) (.slice none 0 0)
      unfold set8 at hv K9
      have k0 := K9.at 0 rfl; have k1 := K9.at 1 rfl; have k2 := K9.at 2 rfl; have k3 := K9.at 3 rfl; have k4 := K9.at 4 rfl; have k5 := K9.at 5 rfl; have k6 := K9.at 6 rfl; have k7 := K9.at 7 rfl
      refine bodyPost_ret (by simp [results, Tryd.results15, go_sem, k0, k1, k2, k3, k4, k5, k6, k7]; rfl) rfl ?_
      have hTz := hT80.trans (hv.below hT80.size (fun i e => by omega))
      exact ⟨(EnT.mk 0 ⟨#[]⟩ 0 (0, ⟨#[]⟩, ⟨#[]⟩) (.slice none 0 0) (.slice none 0 0) [] []), by rw [hgo]; rfl, by rw [hgo]; rfl, zen_rd, hTz⟩
    subst hc
    have hne : tx ≠ s := fun e => hok ⟨rfl, rfl, e⟩
    have g1 : ¬ tx.toList = s.toList := ba_toList_ne hne
    have g2 : (tx.toList == s.toList) = false := beq_eq_false_iff_ne.2 g1
    have g3 : (tx != s) = true := ba_bne hne
    clear hok hne
    go_wp2_with (first | (go_at_call 14; refine (hputh.out).mono ?_; rintro e w80 ⟨rfl, hB80⟩; have Z80 := Z11.pure hB80; have E80 := hE.pure hB80; have S80 := S11.pure hB80; have P80 := P11.pure hB80; have R80 := hrd.out.pure hB80; have hT80 := hT11.trans (hB80.mono hT11.size); clear p0 p1 p2 p3 p4 p5 p6 p7; have p0 := P80.at 0 rfl; have p1 := P80.at 1 rfl; have p2 := P80.at 2 rfl; have p3 := P80.at 3 rfl; have p4 := P80.at 4 rfl; have p5 := P80.at 5 rfl; have p6 := P80.at 6 rfl; have p7 := P80.at 7 rfl; have z0 := Z80.at 0 rfl; have z1 := Z80.at 1 rfl; have z2 := Z80.at 2 rfl; have z3 := Z80.at 3 rfl; have z4 := Z80.at 4 rfl; have z5 := Z80.at 5 rfl; have z6 := Z80.at 6 rfl; have z7 := Z80.at 7 rfl; have y0 := Z80.frozen 0; have y1 := Z80.frozen 1; have y2 := Z80.frozen 2; have y3 := Z80.frozen 3; have y4 := Z80.frozen 4; have y5 := Z80.frozen 5; have y6 := Z80.frozen 6; have y7 := Z80.frozen 7; have tt80 := E80.b.at 0 rfl; have ss80 := S80.at 0 rfl) | (go_at_call 43; (with_reducible refine (bad_any _ rb vb rE1 _ E80.p E80.s).mono ?_); rintro e _ ⟨rfl, rfl⟩))
    have hgo := hgoh.out
    have hv := Upd.at8 w80 (w.heap.size + 1) (.int .u8 0) (.string ⟨#[]⟩) (.int .u64 0) (.int .u32 0) (.string ⟨#[]⟩) (.string ⟨#[]⟩) (.slice none 0 0) (.slice none 0 0)
    have K9 := Z80.fresh8 (.int .u8 0) (.string ⟨#[]⟩) (.int .u64 0) (.int .u32 0) (.string ⟨#[]⟩) (.string ⟨#[]⟩) (.slice none 0 0) (.slice none 0 0)
    unfold set8 at hv K9
    have k0 := K9.at 0 rfl; have k1 := K9.at 1 rfl; have k2 := K9.at 2 rfl; have k3 := K9.at 3 rfl; have k4 := K9.at 4 rfl; have k5 := K9.at 5 rfl; have k6 := K9.at 6 rfl; have k7 := K9.at 7 rfl
    refine bodyPost_ret (by simp [results, Tryd.results15, go_sem, k0, k1, k2, k3, k4, k5, k6, k7]; rfl) rfl ?_
    have hTz := hT80.trans (hv.below hT80.size (fun i e => by omega))
    exact ⟨(EnT.mk 0 ⟨#[]⟩ 0 (0, ⟨#[]⟩, ⟨#[]⟩) (.slice none 0 0) (.slice none 0 0) [] []), by rw [hgo]; rfl, by rw [hgo]; rfl, zen_rd, hTz⟩
  · have nN : uN (k : Int) = false := by unfold uN; rw [h]; rfl
    have nM : uM (k : Int) = true := by unfold uM; rw [h]; rfl
    have nX : uX (k : Int) = true := by unfold uX; rw [h]; rfl
    have nW : uW (k : Int) = false := by unfold uW; rw [h]; rfl
    rw [show (us (k : Int) % 2 == 1) = false from nN] at b1
    rw [show (us (k : Int) / 2 % 2 == 1) = true from nM] at b2
    rw [show (us (k : Int) / 4 % 2 == 1) = true from nX] at b4
    rw [show (us (k : Int) / 8 % 2 == 1) = false from nW] at b8
    obtain ⟨⟨n, rc⟩, hm⟩ : ∃ x, nmR 8 r1 = x := ⟨_, rfl⟩
    have lm := Lib.hid (show rc.1.length ≤ r1.1.length by have := nmR_le 8 r1; rw [hm] at this; exact this)
    have hmh := Lib.hid hm
    obtain ⟨⟨xf, rx1⟩, hx1⟩ : ∃ x, nmR 4 rc = x := ⟨_, rfl⟩
    obtain ⟨⟨xg, rx2⟩, hx2⟩ : ∃ x, txR 1 255 rx1 = x := ⟨_, rfl⟩
    obtain ⟨⟨xb, rx3⟩, hx3⟩ : ∃ x, txR 1 255 rx2 = x := ⟨_, rfl⟩
    have lx1 := Lib.hid (show rx1.1.length ≤ rc.1.length by have := nmR_le 4 rc; rw [hx1] at this; exact this)
    have lx2 := Lib.hid (show rx2.1.length ≤ rx1.1.length by have := txR_le 1 255 rx1; rw [hx2] at this; exact this)
    have lx3 := Lib.hid (show rx3.1.length ≤ rx2.1.length by have := txR_le 1 255 rx2; rw [hx3] at this; exact this)
    have hxl : xf < 4294967296 := by have := nmR_lt 4 rc; rw [hx1] at this; exact this
    have hxw : IntKind.u32.wrap (xf : Int) = (xf : Int) := u32_wrap _ (by omega) (by omega)
    have hx1h := Lib.hid hx1; have hx2h := Lib.hid hx2; have hx3h := Lib.hid hx3
    have hpq0 := Lib.hid (hegh.out ⟨#[]⟩ r1 n rc (xf, xg, xb) rx3 (([], []), rx3) (by rw [nN]; rfl) (by rw [nM]; rw [if_pos rfl, hm]) (by rw [nX]; rw [if_pos rfl]; unfold rdX; rw [hx1]; dsimp only; rw [hx2]; dsimp only; rw [hx3]) (by rw [nW]; rfl))
    clear nN nM nX nW hm hx1 hx2 hx3 hxl
    obtain ⟨u, hue⟩ : ∃ u, us (k : Int) = u := ⟨_, rfl⟩
    rw [hue] at b1 b2 b4 b8
    try rw [hue]
    clear h hue
    have tt7 := E7.b.at 0 rfl
    go_upto_region 8 with (go_at_call 36; refine (pnum_rs _ rb vb r1 8 E7.p E7.s (by unfold Wd; omega) E7.l).mono ?_; rintro e w8 ⟨he, hs8, hu8⟩; simp only [hmh.out] at he hs8; subst he; have E8 := E7.next hu8 hs8 lm.out; have S8 := S7.upd hu8 (fun e => by have h1 := hvb.out; have h2 := hvt.out; have h3 := hpb.out; unfold Only at e; omega); have Z8 := Z7.upd hu8 (fun e => by have h1 := hvb.out; have h2 := hvt.out; have h3 := hpb.out; unfold Only at e; omega); have P8 := P7.upd hu8 (fun e => by have h1 := hvb.out; have h2 := hvt.out; have h3 := hpb.out; unfold Only at e; omega); have hT8 := below_only hT7 hu8 (by have h1 := hvb.out; omega) hT7.size; have tt8 := E8.b.at 0 rfl; have pp2 := P8.at 2 rfl; have yy2 := P8.frozen 2)
    have hu9 := (upd_set _ w6.heap.size 2 (.int .u64 n) (Upd.refl (fun k => k = w6.heap.size) w8) rfl)
    have P9 : Blk _ w6.heap.size [.int .u8 k, .string ⟨#[]⟩, .int .u64 n, .int .u32 0, .string ⟨#[]⟩, .string ⟨#[]⟩, .slice none 0 0, .slice none 0 0] := (P8.set 2 (.int .u64 n))
    have E9 := E8.other hu9 (fun k e => by have h3 := hpb.out; omega)
    have S9 := S8.upd hu9 (fun e => by have h1 := hvb.out; have h2 := hvt.out; have h3 := hpb.out; omega)
    have Z9 := Z8.upd hu9 (fun e => by have h1 := hvb.out; have h2 := hvt.out; have h3 := hpb.out; omega)
    have hT9 := hT8.trans (hu9.below hT8.size (fun i e => by have h1 := hvb.out; have h2 := hvt.out; have h3 := hpb.out; omega))
    generalize World.setCell w8 _ _ = w9 at *
    clear pp2 yy2 tt8
    have tt9 := E9.b.at 0 rfl
    go_upto_region 12 with (first | (go_at_call 36; refine (pnum_rs _ rb vb rc 4 E9.p E9.s (by unfold Wd; omega) E9.l).mono ?_; rintro e w10 ⟨he, hs10, hu10⟩; simp only [hx1h.out] at he hs10; subst he; have E10 := E9.next hu10 hs10 lx1.out; have S10 := S9.upd hu10 (fun e => by have h1 := hvb.out; have h2 := hvt.out; have h3 := hpb.out; unfold Only at e; omega); have Z10 := Z9.upd hu10 (fun e => by have h1 := hvb.out; have h2 := hvt.out; have h3 := hpb.out; unfold Only at e; omega); have P10 := P9.upd hu10 (fun e => by have h1 := hvb.out; have h2 := hvt.out; have h3 := hpb.out; unfold Only at e; omega); have hT10 := below_only hT9 hu10 (by have h1 := hvb.out; omega) hT9.size; have tt10 := E10.b.at 0 rfl) | (go_at_call 37; refine (ptext_rs _ rb vb rx1 1 255 E10.p E10.s (by omega) E10.l (by unfold Big; omega)).mono ?_; rintro e w11 ⟨he, hs11, hu11⟩; simp only [hx2h.out] at he hs11; subst he; have E11 := E10.next hu11 hs11 lx2.out; have S11 := S10.upd hu11 (fun e => by have h1 := hvb.out; have h2 := hvt.out; have h3 := hpb.out; unfold Only at e; omega); have Z11 := Z10.upd hu11 (fun e => by have h1 := hvb.out; have h2 := hvt.out; have h3 := hpb.out; unfold Only at e; omega); have P11 := P10.upd hu11 (fun e => by have h1 := hvb.out; have h2 := hvt.out; have h3 := hpb.out; unfold Only at e; omega); have hT11 := below_only hT10 hu11 (by have h1 := hvb.out; omega) hT10.size; have tt11 := E11.b.at 0 rfl) | (go_at_call 37; refine (ptext_rs _ rb vb rx2 1 255 E11.p E11.s (by omega) E11.l (by unfold Big; omega)).mono ?_; rintro e w12 ⟨he, hs12, hu12⟩; simp only [hx3h.out] at he hs12; subst he; have E12 := E11.next hu12 hs12 lx3.out; have S12 := S11.upd hu12 (fun e => by have h1 := hvb.out; have h2 := hvt.out; have h3 := hpb.out; unfold Only at e; omega); have Z12 := Z11.upd hu12 (fun e => by have h1 := hvb.out; have h2 := hvt.out; have h3 := hpb.out; unfold Only at e; omega); have P12 := P11.upd hu12 (fun e => by have h1 := hvb.out; have h2 := hvt.out; have h3 := hpb.out; unfold Only at e; omega); have hT12 := below_only hT11 hu12 (by have h1 := hvb.out; omega) hT11.size; have tt12 := E12.b.at 0 rfl; have pp3 := P12.at 3 rfl; have yy3 := P12.frozen 3; have pp4 := P12.at 4 rfl; have yy4 := P12.frozen 4; have pp5 := P12.at 5 rfl; have yy5 := P12.frozen 5))
    have hu13 := (upd_set _ w6.heap.size 5 (.string xb) ((upd_set _ w6.heap.size 4 (.string xg) ((upd_set _ w6.heap.size 3 (.int .u32 xf) (Upd.refl (fun k => k = w6.heap.size) w12) rfl)) rfl)) rfl)
    have P13 : Blk _ w6.heap.size [.int .u8 k, .string ⟨#[]⟩, .int .u64 n, .int .u32 xf, .string xg, .string xb, .slice none 0 0, .slice none 0 0] := (((P12.set 3 (.int .u32 xf)).set 4 (.string xg)).set 5 (.string xb))
    have E13 := E12.other hu13 (fun k e => by have h3 := hpb.out; omega)
    have S13 := S12.upd hu13 (fun e => by have h1 := hvb.out; have h2 := hvt.out; have h3 := hpb.out; omega)
    have Z13 := Z12.upd hu13 (fun e => by have h1 := hvb.out; have h2 := hvt.out; have h3 := hpb.out; omega)
    have hT13 := hT12.trans (hu13.below hT12.size (fun i e => by have h1 := hvb.out; have h2 := hvt.out; have h3 := hpb.out; omega))
    generalize World.setCell (World.setCell (World.setCell w12 _ _) _ _) _ _ = w13 at *
    clear pp3 yy3 pp4 yy4 pp5 yy5 tt12
    have tt13 := E13.b.at 0 rfl
    try clear tt10 tt11
    have hpq := Lib.hid (show egP L = ((EnT.mk (k : Int) ⟨#[]⟩ ((n : Nat) : Int) ((xf : Int), xg, xb) (.slice none 0 0) (.slice none 0 0) [] []).e, rx3) from hpq0.out)
    have hwf := Lib.hid (show (EnT.mk (k : Int) ⟨#[]⟩ ((n : Nat) : Int) ((xf : Int), xg, xb) (.slice none 0 0) (.slice none 0 0) [] []).e.Wf by have h9 := egP_wf L; rw [hpq.out] at h9; exact h9)
    have hrd := Lib.hid (show EnRd (fun i => w.heap.size ≤ i) w13 (EnT.mk (k : Int) ⟨#[]⟩ ((n : Nat) : Int) ((xf : Int), xg, xb) (.slice none 0 0) (.slice none 0 0) [] []) from ⟨Slc.nil _ _ _, (fun i e => by cases e), (fun x hx => absurd hx (by simp)), Slc.nil _ _ _, (fun i e => by cases e), hwf.out⟩)
    obtain ⟨q, hq⟩ : ∃ q, (EnT.mk (k : Int) ⟨#[]⟩ ((n : Nat) : Int) ((xf : Int), xg, xb) (.slice none 0 0) (.slice none 0 0) [] []).e = q := ⟨_, rfl⟩
    have hput := eput_any (EnT.mk (k : Int) ⟨#[]⟩ ((n : Nat) : Int) ((xf : Int), xg, xb) (.slice none 0 0) (.slice none 0 0) [] []) (fun i => w.heap.size ≤ i) w13 hrd.out (hT.pure hT13)
    obtain ⟨cx, hcx⟩ : ∃ cx, q.chk = cx := ⟨_, rfl⟩
    obtain ⟨tx, htx⟩ : ∃ tx, (if cx = 0 then q.text else (⟨#[]⟩ : ByteArray)) = tx := ⟨_, rfl⟩
    rw [hq, hcx, htx, EnT.arg_mk] at hput
    have hpqq := hpq.out
    rw [hq] at hpqq
    have hpq2 := Lib.hid hpqq
    have hputh := Lib.hid hput; have hqh := Lib.hid hq; have hcxh := Lib.hid hcx; have htxh := Lib.hid htx
    clear hput hq hcx htx hpqq
    obtain ⟨⟨rE1, bad⟩, hrE⟩ : ∃ x, rx3 = x := ⟨_, rfl⟩
    have hpq3 := hpq2.out
    rw [hrE] at hpq3
    have hpq3 := Lib.hid hpq3
    have hE := E13
    rw [hrE] at hE
    clear hrE
    have p0 := P13.at 0 rfl; have p1 := P13.at 1 rfl; have p2 := P13.at 2 rfl; have p3 := P13.at 3 rfl; have p4 := P13.at 4 rfl; have p5 := P13.at 5 rfl; have p6 := P13.at 6 rfl; have p7 := P13.at 7 rfl
    have hend0 := Lib.hid (fun (v : World) (hB : Below w13.heap.size w13 v) (v2 : World) (hu : Upd (fun i => i = w.heap.size + 1) v v2) => show EnRd (fun i => w.heap.size ≤ i) v2 (EnT.mk (k : Int) ⟨#[]⟩ ((n : Nat) : Int) ((xf : Int), xg, xb) (.slice none 0 0) (.slice none 0 0) [] []) from ⟨Slc.nil _ _ _, (fun i e => by cases e), (fun x hx => absurd hx (by simp)), Slc.nil _ _ _, (fun i e => by cases e), hwf.out⟩)
    by_cases hok : bad = false ∧ cx = 0 ∧ tx = s
    · obtain ⟨rfl, rfl, rfl⟩ := hok
      have hgoh := Lib.hid (egO_ok hpq3.out rfl hcxh.out (by have h1 := htxh.out; rw [if_pos rfl] at h1; exact (en_text.1 h1).trans hLeh.out))
      go_wp2_with (first | (go_at_call 14; refine (hputh.out).mono ?_; rintro e w80 ⟨rfl, hB80⟩; have Z80 := Z13.pure hB80; have E80 := hE.pure hB80; have S80 := S13.pure hB80; have P80 := P13.pure hB80; have R80 := hrd.out.pure hB80; have hT80 := hT13.trans (hB80.mono hT13.size); clear p0 p1 p2 p3 p4 p5 p6 p7; have p0 := P80.at 0 rfl; have p1 := P80.at 1 rfl; have p2 := P80.at 2 rfl; have p3 := P80.at 3 rfl; have p4 := P80.at 4 rfl; have p5 := P80.at 5 rfl; have p6 := P80.at 6 rfl; have p7 := P80.at 7 rfl; have z0 := Z80.at 0 rfl; have z1 := Z80.at 1 rfl; have z2 := Z80.at 2 rfl; have z3 := Z80.at 3 rfl; have z4 := Z80.at 4 rfl; have z5 := Z80.at 5 rfl; have z6 := Z80.at 6 rfl; have z7 := Z80.at 7 rfl; have y0 := Z80.frozen 0; have y1 := Z80.frozen 1; have y2 := Z80.frozen 2; have y3 := Z80.frozen 3; have y4 := Z80.frozen 4; have y5 := Z80.frozen 5; have y6 := Z80.frozen 6; have y7 := Z80.frozen 7; have tt80 := E80.b.at 0 rfl; have ss80 := S80.at 0 rfl) | (go_at_call 43; (with_reducible refine (bad_any _ rb vb rE1 _ E80.p E80.s).mono ?_); rintro e _ ⟨rfl, rfl⟩))
      have hgo := hgoh.out
      have hend := Lib.hid (fun (v2 : World) (hu : Upd (fun i => i = w.heap.size + 1) w80 v2) => hend0.out w80 hB80 v2 hu)
      have hv := Upd.at8 w80 (w.heap.size + 1) (.int .u8 k) (.string ⟨#[]⟩) (.int .u64 n) (.int .u32 xf) (.string xg) (.string xb) (.slice none 0 0) (.slice none 0 0)
      have K9 := Z80.fresh8 (.int .u8 k) (.string ⟨#[]⟩) (.int .u64 n) (.int .u32 xf) (.string xg) (.string xb) (.slice none 0 0) (.slice none 0 0)
      have R9 := R80
      unfold set8 at hv K9
      have k0 := K9.at 0 rfl; have k1 := K9.at 1 rfl; have k2 := K9.at 2 rfl; have k3 := K9.at 3 rfl; have k4 := K9.at 4 rfl; have k5 := K9.at 5 rfl; have k6 := K9.at 6 rfl; have k7 := K9.at 7 rfl
      refine bodyPost_ret (by simp [results, Tryd.results15, go_sem, k0, k1, k2, k3, k4, k5, k6, k7]; rfl) rfl ?_
      have hTz := hT80.trans (hv.below hT80.size (fun i e => by omega))
      exact ⟨(EnT.mk (k : Int) ⟨#[]⟩ ((n : Nat) : Int) ((xf : Int), xg, xb) (.slice none 0 0) (.slice none 0 0) [] []), by rw [hgo]; rfl, by rw [hgo]; exact hqh.out, hend.out _ hv, hTz⟩
    have hgoh := Lib.hid (show egO L = none from egO_no hpq3.out (fun e => hok ⟨e.1, hcxh.out.symm.trans e.2.1, by have h1 := htxh.out; rw [if_pos (hcxh.out.symm.trans e.2.1)] at h1; rw [← h1]; exact en_text.2 (e.2.2.trans hLeh.out.symm)⟩))
    cases bad
    rotate_left 1
    · clear hok
      go_wp2_with (first | (go_at_call 14; refine (hputh.out).mono ?_; rintro e w80 ⟨rfl, hB80⟩; have Z80 := Z13.pure hB80; have E80 := hE.pure hB80; have S80 := S13.pure hB80; have P80 := P13.pure hB80; have R80 := hrd.out.pure hB80; have hT80 := hT13.trans (hB80.mono hT13.size); clear p0 p1 p2 p3 p4 p5 p6 p7; have p0 := P80.at 0 rfl; have p1 := P80.at 1 rfl; have p2 := P80.at 2 rfl; have p3 := P80.at 3 rfl; have p4 := P80.at 4 rfl; have p5 := P80.at 5 rfl; have p6 := P80.at 6 rfl; have p7 := P80.at 7 rfl; have z0 := Z80.at 0 rfl; have z1 := Z80.at 1 rfl; have z2 := Z80.at 2 rfl; have z3 := Z80.at 3 rfl; have z4 := Z80.at 4 rfl; have z5 := Z80.at 5 rfl; have z6 := Z80.at 6 rfl; have z7 := Z80.at 7 rfl; have y0 := Z80.frozen 0; have y1 := Z80.frozen 1; have y2 := Z80.frozen 2; have y3 := Z80.frozen 3; have y4 := Z80.frozen 4; have y5 := Z80.frozen 5; have y6 := Z80.frozen 6; have y7 := Z80.frozen 7; have tt80 := E80.b.at 0 rfl; have ss80 := S80.at 0 rfl) | (go_at_call 43; (with_reducible refine (bad_any _ rb vb rE1 _ E80.p E80.s).mono ?_); rintro e _ ⟨rfl, rfl⟩))
      have hgo := hgoh.out
      have hv := Upd.at8 w80 (w.heap.size + 1) (.int .u8 0) (.string ⟨#[]⟩) (.int .u64 0) (.int .u32 0) (.string ⟨#[]⟩) (.string ⟨#[]⟩) (.slice none 0 0) (.slice none 0 0)
      have K9 := Z80.fresh8 (.int .u8 0) (.string ⟨#[]⟩) (.int .u64 0) (.int .u32 0) (.string ⟨#[]⟩) (.string ⟨#[]⟩) (.slice none 0 0) (.slice none 0 0)
      unfold set8 at hv K9
      have k0 := K9.at 0 rfl; have k1 := K9.at 1 rfl; have k2 := K9.at 2 rfl; have k3 := K9.at 3 rfl; have k4 := K9.at 4 rfl; have k5 := K9.at 5 rfl; have k6 := K9.at 6 rfl; have k7 := K9.at 7 rfl
      refine bodyPost_ret (by simp [results, Tryd.results15, go_sem, k0, k1, k2, k3, k4, k5, k6, k7]; rfl) rfl ?_
      have hTz := hT80.trans (hv.below hT80.size (fun i e => by omega))
      exact ⟨(EnT.mk 0 ⟨#[]⟩ 0 (0, ⟨#[]⟩, ⟨#[]⟩) (.slice none 0 0) (.slice none 0 0) [] []), by rw [hgo]; rfl, by rw [hgo]; rfl, zen_rd, hTz⟩
    by_cases hc : cx = 0
    rotate_left 1
    · have g1 : (cx != 0) = true := bne_iff_ne.2 hc
      have g2 : (cx == 0) = false := beq_eq_false_iff_ne.2 hc
      clear hok hc
      go_wp2_with (first | (go_at_call 14; refine (hputh.out).mono ?_; rintro e w80 ⟨rfl, hB80⟩; have Z80 := Z13.pure hB80; have E80 := hE.pure hB80; have S80 := S13.pure hB80; have P80 := P13.pure hB80; have R80 := hrd.out.pure hB80; have hT80 := hT13.trans (hB80.mono hT13.size); clear p0 p1 p2 p3 p4 p5 p6 p7; have p0 := P80.at 0 rfl; have p1 := P80.at 1 rfl; have p2 := P80.at 2 rfl; have p3 := P80.at 3 rfl; have p4 := P80.at 4 rfl; have p5 := P80.at 5 rfl; have p6 := P80.at 6 rfl; have p7 := P80.at 7 rfl; have z0 := Z80.at 0 rfl; have z1 := Z80.at 1 rfl; have z2 := Z80.at 2 rfl; have z3 := Z80.at 3 rfl; have z4 := Z80.at 4 rfl; have z5 := Z80.at 5 rfl; have z6 := Z80.at 6 rfl; have z7 := Z80.at 7 rfl; have y0 := Z80.frozen 0; have y1 := Z80.frozen 1; have y2 := Z80.frozen 2; have y3 := Z80.frozen 3; have y4 := Z80.frozen 4; have y5 := Z80.frozen 5; have y6 := Z80.frozen 6; have y7 := Z80.frozen 7; have tt80 := E80.b.at 0 rfl; have ss80 := S80.at 0 rfl) | (go_at_call 43; (with_reducible refine (bad_any _ rb vb rE1 _ E80.p E80.s).mono ?_); rintro e _ ⟨rfl, rfl⟩))
      have hgo := hgoh.out
      have hv := Upd.at8 w80 (w.heap.size + 1) (.int .u8 0) (.string ⟨#[]⟩) (.int .u64 0) (.int .u32 0) (.string ⟨#[]⟩) (.string ⟨#[]⟩) (.slice none 0 0) (.slice none 0 0)
      have K9 := Z80.fresh8 (.int .u8 0) (.string ⟨#[]⟩) (.int .u64 0) (.int .u32 0) (.string ⟨#[]⟩) (.string ⟨#[]⟩) (.slice none 0 0) (.slice none 0 0)
      unfold set8 at hv K9
      have k0 := K9.at 0 rfl; have k1 := K9.at 1 rfl; have k2 := K9.at 2 rfl; have k3 := K9.at 3 rfl; have k4 := K9.at 4 rfl; have k5 := K9.at 5 rfl; have k6 := K9.at 6 rfl; have k7 := K9.at 7 rfl
      refine bodyPost_ret (by simp [results, Tryd.results15, go_sem, k0, k1, k2, k3, k4, k5, k6, k7]; rfl) rfl ?_
      have hTz := hT80.trans (hv.below hT80.size (fun i e => by omega))
      exact ⟨(EnT.mk 0 ⟨#[]⟩ 0 (0, ⟨#[]⟩, ⟨#[]⟩) (.slice none 0 0) (.slice none 0 0) [] []), by rw [hgo]; rfl, by rw [hgo]; rfl, zen_rd, hTz⟩
    subst hc
    have hne : tx ≠ s := fun e => hok ⟨rfl, rfl, e⟩
    have g1 : ¬ tx.toList = s.toList := ba_toList_ne hne
    have g2 : (tx.toList == s.toList) = false := beq_eq_false_iff_ne.2 g1
    have g3 : (tx != s) = true := ba_bne hne
    clear hok hne
    go_wp2_with (first | (go_at_call 14; refine (hputh.out).mono ?_; rintro e w80 ⟨rfl, hB80⟩; have Z80 := Z13.pure hB80; have E80 := hE.pure hB80; have S80 := S13.pure hB80; have P80 := P13.pure hB80; have R80 := hrd.out.pure hB80; have hT80 := hT13.trans (hB80.mono hT13.size); clear p0 p1 p2 p3 p4 p5 p6 p7; have p0 := P80.at 0 rfl; have p1 := P80.at 1 rfl; have p2 := P80.at 2 rfl; have p3 := P80.at 3 rfl; have p4 := P80.at 4 rfl; have p5 := P80.at 5 rfl; have p6 := P80.at 6 rfl; have p7 := P80.at 7 rfl; have z0 := Z80.at 0 rfl; have z1 := Z80.at 1 rfl; have z2 := Z80.at 2 rfl; have z3 := Z80.at 3 rfl; have z4 := Z80.at 4 rfl; have z5 := Z80.at 5 rfl; have z6 := Z80.at 6 rfl; have z7 := Z80.at 7 rfl; have y0 := Z80.frozen 0; have y1 := Z80.frozen 1; have y2 := Z80.frozen 2; have y3 := Z80.frozen 3; have y4 := Z80.frozen 4; have y5 := Z80.frozen 5; have y6 := Z80.frozen 6; have y7 := Z80.frozen 7; have tt80 := E80.b.at 0 rfl; have ss80 := S80.at 0 rfl) | (go_at_call 43; (with_reducible refine (bad_any _ rb vb rE1 _ E80.p E80.s).mono ?_); rintro e _ ⟨rfl, rfl⟩))
    have hgo := hgoh.out
    have hv := Upd.at8 w80 (w.heap.size + 1) (.int .u8 0) (.string ⟨#[]⟩) (.int .u64 0) (.int .u32 0) (.string ⟨#[]⟩) (.string ⟨#[]⟩) (.slice none 0 0) (.slice none 0 0)
    have K9 := Z80.fresh8 (.int .u8 0) (.string ⟨#[]⟩) (.int .u64 0) (.int .u32 0) (.string ⟨#[]⟩) (.string ⟨#[]⟩) (.slice none 0 0) (.slice none 0 0)
    unfold set8 at hv K9
    have k0 := K9.at 0 rfl; have k1 := K9.at 1 rfl; have k2 := K9.at 2 rfl; have k3 := K9.at 3 rfl; have k4 := K9.at 4 rfl; have k5 := K9.at 5 rfl; have k6 := K9.at 6 rfl; have k7 := K9.at 7 rfl
    refine bodyPost_ret (by simp [results, Tryd.results15, go_sem, k0, k1, k2, k3, k4, k5, k6, k7]; rfl) rfl ?_
    have hTz := hT80.trans (hv.below hT80.size (fun i e => by omega))
    exact ⟨(EnT.mk 0 ⟨#[]⟩ 0 (0, ⟨#[]⟩, ⟨#[]⟩) (.slice none 0 0) (.slice none 0 0) [] []), by rw [hgo]; rfl, by rw [hgo]; rfl, zen_rd, hTz⟩
  · have nN : uN (k : Int) = false := by unfold uN; rw [h]; rfl
    have nM : uM (k : Int) = false := by unfold uM; rw [h]; rfl
    have nX : uX (k : Int) = false := by unfold uX; rw [h]; rfl
    have nW : uW (k : Int) = true := by unfold uW; rw [h]; rfl
    rw [show (us (k : Int) % 2 == 1) = false from nN] at b1
    rw [show (us (k : Int) / 2 % 2 == 1) = false from nM] at b2
    rw [show (us (k : Int) / 4 % 2 == 1) = false from nX] at b4
    rw [show (us (k : Int) / 8 % 2 == 1) = true from nW] at b8
    have hpq0 := Lib.hid (hegh.out ⟨#[]⟩ r1 0 r1 (0, ⟨#[]⟩, ⟨#[]⟩) r1 (rdW L.length r1) (by rw [nN]; rfl) (by rw [nM]; rfl) (by rw [nX]; rfl) (by rw [nW]; rfl))
    clear nN nM nX nW 
    obtain ⟨u, hue⟩ : ∃ u, us (k : Int) = u := ⟨_, rfl⟩
    rw [hue] at b1 b2 b4 b8
    try rw [hue]
    clear h hue
    have tt7 := E7.b.at 0 rfl
    have hpj := Lib.hid (show w6.heap.size < w7.heap.size from P7.lt)
    go_upto_region 14 with (go_at_call 38; refine (getall1_any _ w4.heap.size w.heap.size rb vb r1 s E7 S7 (by have h1 := hvb.out; omega) hsz.out (fun v hv => hT.pure (below_only hT7 hv (by have h1 := hvb.out; omega) hT7.size))).mono ?_; rintro e wA ⟨v, puts, he, hpm, G⟩; obtain ⟨pa, pc, rfl⟩ := own_lenB G.o; subst he; have hpmh := Lib.hid hpm; clear hpm; have E50 := G.e; have S50 := G.b; have hG := Lib.hid (And.intro G.o G.rd); have Z50 := Z7.upd G.up (fun e => by have h1 := hvb.out; have h2 := hvt.out; have h3 := hpb.out; unfold Only at e; omega); have P50 := P7.upd G.up (fun e => by have h1 := hvb.out; have h2 := hvt.out; have h3 := hpb.out; unfold Only at e; omega); have hT50 := below_only hT7 G.up (by have h1 := hvb.out; omega) hT7.size; clear G; have tt50 := E50.b.at 0 rfl; have pp6 := P50.at 6 rfl; have yy6 := P50.frozen 6)
    have hu51 := (upd_set _ w6.heap.size 6 (.slice pa puts.length pc) (Upd.refl (fun k => k = w6.heap.size) wA) rfl)
    have P51 : Blk _ w6.heap.size [.int .u8 k, .string ⟨#[]⟩, .int .u64 0, .int .u32 0, .string ⟨#[]⟩, .string ⟨#[]⟩, .slice pa puts.length pc, .slice none 0 0] := (P50.set 6 (.slice pa puts.length pc))
    have E51 := E50.other hu51 (fun k e => by have h3 := hpb.out; omega)
    have S51 := S50.upd hu51 (fun e => by have h1 := hvb.out; have h2 := hvt.out; have h3 := hpb.out; omega)
    have Z51 := Z50.upd hu51 (fun e => by have h1 := hvb.out; have h2 := hvt.out; have h3 := hpb.out; omega)
    have hT51 := hT50.trans (hu51.below hT50.size (fun i e => by have h1 := hvb.out; have h2 := hvt.out; have h3 := hpb.out; omega))
    generalize World.setCell wA _ _ = w51 at *
    clear pp6 yy6 tt50
    have tt51 := E51.b.at 0 rfl
    have O51 := hG.out.1.upd hu51 (fun i hi e => by have h1 := hG.out.1.ge hi; have h2 := hpj.out; omega)
    have R51 := Lib.hid (fun x hx => (hG.out.2 x hx).upd hu51 (fun i hi e => by have h1 := hi.1; have h2 := hpj.out; omega))
    go_upto_region 15 with (go_at_call 41; refine (getall2_any _ w4.heap.size rb vb (gtA (rdPt s.size) (nmR 1 r1).1 (nmR 1 r1).2).2 E51).mono ?_; rintro e wB ⟨v, takes, he, htm, H⟩; obtain ⟨ta, tc, rfl⟩ := own_lenB H.o; subst he; have htmh := Lib.hid htm; clear htm; have E52 := H.e; have hHo := Lib.hid H.o; have S52 := S51.upd H.up (fun e => by have h1 := hvb.out; have h2 := hvt.out; have h3 := hpb.out; unfold Only at e; omega); have Z52 := Z51.upd H.up (fun e => by have h1 := hvb.out; have h2 := hvt.out; have h3 := hpb.out; unfold Only at e; omega); have P52 := P51.upd H.up (fun e => by have h1 := hvb.out; have h2 := hvt.out; have h3 := hpb.out; unfold Only at e; omega); have O52 := O51.upd H.up (fun i hi e => by have h1 := hG.out.1.ge hi; have h2 := hpj.out; have h3 := hvt.out; have h4 := hpb.out; unfold Only at e; omega); have R52 := Lib.hid (fun x hx => (R51.out x hx).upd H.up (fun i hi e => by have h1 := hi.1; have h2 := hpj.out; have h3 := hvt.out; have h4 := hpb.out; unfold Only at e; omega)); have hT52 := below_only hT51 H.up (by have h1 := hvb.out; omega) hT51.size; have hb51 := Lib.hid (show w6.heap.size < w51.heap.size from P51.lt); clear H; have tt52 := E52.b.at 0 rfl; have pp7 := P52.at 7 rfl; have yy7 := P52.frozen 7)
    have hu53 := (upd_set _ w6.heap.size 7 (.slice ta takes.length tc) (Upd.refl (fun k => k = w6.heap.size) wB) rfl)
    have P53 : Blk _ w6.heap.size [.int .u8 k, .string ⟨#[]⟩, .int .u64 0, .int .u32 0, .string ⟨#[]⟩, .string ⟨#[]⟩, .slice pa puts.length pc, .slice ta takes.length tc] := (P52.set 7 (.slice ta takes.length tc))
    have E53 := E52.other hu53 (fun k e => by have h3 := hpb.out; omega)
    have S53 := S52.upd hu53 (fun e => by have h1 := hvb.out; have h2 := hvt.out; have h3 := hpb.out; omega)
    have Z53 := Z52.upd hu53 (fun e => by have h1 := hvb.out; have h2 := hvt.out; have h3 := hpb.out; omega)
    have hT53 := hT52.trans (hu53.below hT52.size (fun i e => by have h1 := hvb.out; have h2 := hvt.out; have h3 := hpb.out; omega))
    generalize World.setCell wB _ _ = w53 at *
    clear pp7 yy7 tt52
    have tt53 := E53.b.at 0 rfl
    have O53 := O52.upd hu53 (fun i hi e => by have h1 := hG.out.1.ge hi; have h2 := hpj.out; omega)
    have R53 := Lib.hid (fun x hx => (R52.out x hx).upd hu53 (fun i hi e => by have h1 := hi.1; have h2 := hpj.out; omega))
    have H53 := hHo.out.upd hu53 (fun i hi e => by have h1 := hHo.out.ge hi; have h2 := hb51.out; omega)
    have hwj := Lib.hid (show w.heap.size ≤ w7.heap.size from hT7.size)
    have hw51 := Lib.hid (show w.heap.size ≤ w51.heap.size from hT51.size)
    have hpq := Lib.hid (show egP L = ((EnT.mk (k : Int) ⟨#[]⟩ (0 : Int) (0, ⟨#[]⟩, ⟨#[]⟩) (.slice pa puts.length pc) (.slice ta takes.length tc) puts takes).e, (gtA rdRf (nmR 1 (gtA (rdPt s.size) (nmR 1 r1).1 (nmR 1 r1).2).2).1 (nmR 1 (gtA (rdPt s.size) (nmR 1 r1).1 (nmR 1 r1).2).2).2).2) by rw [hpq0.out, hLlh.out]; unfold EnT.e rdW; dsimp only; rw [hpmh.out, htmh.out]; try rfl)
    have hwf := Lib.hid (show (EnT.mk (k : Int) ⟨#[]⟩ (0 : Int) (0, ⟨#[]⟩, ⟨#[]⟩) (.slice pa puts.length pc) (.slice ta takes.length tc) puts takes).e.Wf by have h9 := egP_wf L; rw [hpq.out] at h9; exact h9)
    have hrd := Lib.hid (show EnRd (fun i => w.heap.size ≤ i) w53 (EnT.mk (k : Int) ⟨#[]⟩ (0 : Int) (0, ⟨#[]⟩, ⟨#[]⟩) (.slice pa puts.length pc) (.slice ta takes.length tc) puts takes) from ⟨O53.slc ptEnc_len, (fun i hi _ => by have h1 := hG.out.1.ge hi; have h2 := hwj.out; omega), fun x hx => (R53.out x hx).weaken (fun i _ hi => by have h1 := hi.1; have h2 := hwj.out; omega), H53.slc rfEnc_len, (fun i hi _ => by have h1 := hHo.out.ge hi; have h2 := hw51.out; omega), hwf.out⟩)
    obtain ⟨q, hq⟩ : ∃ q, (EnT.mk (k : Int) ⟨#[]⟩ (0 : Int) (0, ⟨#[]⟩, ⟨#[]⟩) (.slice pa puts.length pc) (.slice ta takes.length tc) puts takes).e = q := ⟨_, rfl⟩
    have hput := eput_any (EnT.mk (k : Int) ⟨#[]⟩ (0 : Int) (0, ⟨#[]⟩, ⟨#[]⟩) (.slice pa puts.length pc) (.slice ta takes.length tc) puts takes) (fun i => w.heap.size ≤ i) w53 hrd.out (hT.pure hT53)
    obtain ⟨cx, hcx⟩ : ∃ cx, q.chk = cx := ⟨_, rfl⟩
    obtain ⟨tx, htx⟩ : ∃ tx, (if cx = 0 then q.text else (⟨#[]⟩ : ByteArray)) = tx := ⟨_, rfl⟩
    rw [hq, hcx, htx, EnT.arg_mk] at hput
    have hpqq := hpq.out
    rw [hq] at hpqq
    have hpq2 := Lib.hid hpqq
    have hputh := Lib.hid hput; have hqh := Lib.hid hq; have hcxh := Lib.hid hcx; have htxh := Lib.hid htx
    clear hput hq hcx htx hpqq
    obtain ⟨⟨rE1, bad⟩, hrE⟩ : ∃ x, (gtA rdRf (nmR 1 (gtA (rdPt s.size) (nmR 1 r1).1 (nmR 1 r1).2).2).1 (nmR 1 (gtA (rdPt s.size) (nmR 1 r1).1 (nmR 1 r1).2).2).2).2 = x := ⟨_, rfl⟩
    have hpq3 := hpq2.out
    rw [hrE] at hpq3
    have hpq3 := Lib.hid hpq3
    have hE := E53
    rw [hrE] at hE
    clear hrE
    have p0 := P53.at 0 rfl; have p1 := P53.at 1 rfl; have p2 := P53.at 2 rfl; have p3 := P53.at 3 rfl; have p4 := P53.at 4 rfl; have p5 := P53.at 5 rfl; have p6 := P53.at 6 rfl; have p7 := P53.at 7 rfl
    have hend0 := Lib.hid (fun (v : World) (hB : Below w53.heap.size w53 v) (v2 : World) (hu : Upd (fun i => i = w.heap.size + 1) v v2) => show EnRd (fun i => w.heap.size ≤ i) v2 (EnT.mk (k : Int) ⟨#[]⟩ (0 : Int) (0, ⟨#[]⟩, ⟨#[]⟩) (.slice pa puts.length pc) (.slice ta takes.length tc) puts takes) from ⟨((O53.pure hB).upd hu (fun i hi e => by have h1 := hG.out.1.ge hi; have h2 := hpj.out; have h3 := hpb.out; have h4 := hvt.out; have h5 := hvb.out; omega)).slc ptEnc_len, (fun i hi _ => by have h1 := hG.out.1.ge hi; have h2 := hwj.out; omega), (fun x hx => (((R53.out x hx).pure hB).upd hu (fun i hi e => by have h1 := hi.1; have h2 := hpj.out; have h3 := hpb.out; have h4 := hvt.out; have h5 := hvb.out; omega)).weaken (fun i _ hi => by have h1 := hi.1; have h2 := hwj.out; omega)), ((H53.pure hB).upd hu (fun i hi e => by have h1 := hHo.out.ge hi; have h2 := hb51.out; have h3 := hpb.out; have h4 := hvt.out; have h5 := hvb.out; omega)).slc rfEnc_len, (fun i hi _ => by have h1 := hHo.out.ge hi; have h2 := hw51.out; omega), hwf.out⟩)
    by_cases hok : bad = false ∧ cx = 0 ∧ tx = s
    · obtain ⟨rfl, rfl, rfl⟩ := hok
      have hgoh := Lib.hid (egO_ok hpq3.out rfl hcxh.out (by have h1 := htxh.out; rw [if_pos rfl] at h1; exact (en_text.1 h1).trans hLeh.out))
      go_wp2_with (first | (go_at_call 14; refine (hputh.out).mono ?_; rintro e w80 ⟨rfl, hB80⟩; have Z80 := Z53.pure hB80; have E80 := hE.pure hB80; have S80 := S53.pure hB80; have P80 := P53.pure hB80; have R80 := hrd.out.pure hB80; have hT80 := hT53.trans (hB80.mono hT53.size); clear p0 p1 p2 p3 p4 p5 p6 p7; have p0 := P80.at 0 rfl; have p1 := P80.at 1 rfl; have p2 := P80.at 2 rfl; have p3 := P80.at 3 rfl; have p4 := P80.at 4 rfl; have p5 := P80.at 5 rfl; have p6 := P80.at 6 rfl; have p7 := P80.at 7 rfl; have z0 := Z80.at 0 rfl; have z1 := Z80.at 1 rfl; have z2 := Z80.at 2 rfl; have z3 := Z80.at 3 rfl; have z4 := Z80.at 4 rfl; have z5 := Z80.at 5 rfl; have z6 := Z80.at 6 rfl; have z7 := Z80.at 7 rfl; have y0 := Z80.frozen 0; have y1 := Z80.frozen 1; have y2 := Z80.frozen 2; have y3 := Z80.frozen 3; have y4 := Z80.frozen 4; have y5 := Z80.frozen 5; have y6 := Z80.frozen 6; have y7 := Z80.frozen 7; have tt80 := E80.b.at 0 rfl; have ss80 := S80.at 0 rfl) | (go_at_call 43; (with_reducible refine (bad_any _ rb vb rE1 _ E80.p E80.s).mono ?_); rintro e _ ⟨rfl, rfl⟩))
      have hgo := hgoh.out
      have hend := Lib.hid (fun (v2 : World) (hu : Upd (fun i => i = w.heap.size + 1) w80 v2) => hend0.out w80 hB80 v2 hu)
      have hv := Upd.at8 w80 (w.heap.size + 1) (.int .u8 k) (.string ⟨#[]⟩) (.int .u64 0) (.int .u32 0) (.string ⟨#[]⟩) (.string ⟨#[]⟩) (.slice pa puts.length pc) (.slice ta takes.length tc)
      have K9 := Z80.fresh8 (.int .u8 k) (.string ⟨#[]⟩) (.int .u64 0) (.int .u32 0) (.string ⟨#[]⟩) (.string ⟨#[]⟩) (.slice pa puts.length pc) (.slice ta takes.length tc)
      have R9 := R80
      unfold set8 at hv K9
      have k0 := K9.at 0 rfl; have k1 := K9.at 1 rfl; have k2 := K9.at 2 rfl; have k3 := K9.at 3 rfl; have k4 := K9.at 4 rfl; have k5 := K9.at 5 rfl; have k6 := K9.at 6 rfl; have k7 := K9.at 7 rfl
      refine bodyPost_ret (by simp [results, Tryd.results15, go_sem, k0, k1, k2, k3, k4, k5, k6, k7]; rfl) rfl ?_
      have hTz := hT80.trans (hv.below hT80.size (fun i e => by omega))
      exact ⟨(EnT.mk (k : Int) ⟨#[]⟩ (0 : Int) (0, ⟨#[]⟩, ⟨#[]⟩) (.slice pa puts.length pc) (.slice ta takes.length tc) puts takes), by rw [hgo]; rfl, by rw [hgo]; exact hqh.out, hend.out _ hv, hTz⟩
    have hgoh := Lib.hid (show egO L = none from egO_no hpq3.out (fun e => hok ⟨e.1, hcxh.out.symm.trans e.2.1, by have h1 := htxh.out; rw [if_pos (hcxh.out.symm.trans e.2.1)] at h1; rw [← h1]; exact en_text.2 (e.2.2.trans hLeh.out.symm)⟩))
    cases bad
    rotate_left 1
    · clear hok
      go_wp2_with (first | (go_at_call 14; refine (hputh.out).mono ?_; rintro e w80 ⟨rfl, hB80⟩; have Z80 := Z53.pure hB80; have E80 := hE.pure hB80; have S80 := S53.pure hB80; have P80 := P53.pure hB80; have R80 := hrd.out.pure hB80; have hT80 := hT53.trans (hB80.mono hT53.size); clear p0 p1 p2 p3 p4 p5 p6 p7; have p0 := P80.at 0 rfl; have p1 := P80.at 1 rfl; have p2 := P80.at 2 rfl; have p3 := P80.at 3 rfl; have p4 := P80.at 4 rfl; have p5 := P80.at 5 rfl; have p6 := P80.at 6 rfl; have p7 := P80.at 7 rfl; have z0 := Z80.at 0 rfl; have z1 := Z80.at 1 rfl; have z2 := Z80.at 2 rfl; have z3 := Z80.at 3 rfl; have z4 := Z80.at 4 rfl; have z5 := Z80.at 5 rfl; have z6 := Z80.at 6 rfl; have z7 := Z80.at 7 rfl; have y0 := Z80.frozen 0; have y1 := Z80.frozen 1; have y2 := Z80.frozen 2; have y3 := Z80.frozen 3; have y4 := Z80.frozen 4; have y5 := Z80.frozen 5; have y6 := Z80.frozen 6; have y7 := Z80.frozen 7; have tt80 := E80.b.at 0 rfl; have ss80 := S80.at 0 rfl) | (go_at_call 43; (with_reducible refine (bad_any _ rb vb rE1 _ E80.p E80.s).mono ?_); rintro e _ ⟨rfl, rfl⟩))
      have hgo := hgoh.out
      have hv := Upd.at8 w80 (w.heap.size + 1) (.int .u8 0) (.string ⟨#[]⟩) (.int .u64 0) (.int .u32 0) (.string ⟨#[]⟩) (.string ⟨#[]⟩) (.slice none 0 0) (.slice none 0 0)
      have K9 := Z80.fresh8 (.int .u8 0) (.string ⟨#[]⟩) (.int .u64 0) (.int .u32 0) (.string ⟨#[]⟩) (.string ⟨#[]⟩) (.slice none 0 0) (.slice none 0 0)
      unfold set8 at hv K9
      have k0 := K9.at 0 rfl; have k1 := K9.at 1 rfl; have k2 := K9.at 2 rfl; have k3 := K9.at 3 rfl; have k4 := K9.at 4 rfl; have k5 := K9.at 5 rfl; have k6 := K9.at 6 rfl; have k7 := K9.at 7 rfl
      refine bodyPost_ret (by simp [results, Tryd.results15, go_sem, k0, k1, k2, k3, k4, k5, k6, k7]; rfl) rfl ?_
      have hTz := hT80.trans (hv.below hT80.size (fun i e => by omega))
      exact ⟨(EnT.mk 0 ⟨#[]⟩ 0 (0, ⟨#[]⟩, ⟨#[]⟩) (.slice none 0 0) (.slice none 0 0) [] []), by rw [hgo]; rfl, by rw [hgo]; rfl, zen_rd, hTz⟩
    by_cases hc : cx = 0
    rotate_left 1
    · have g1 : (cx != 0) = true := bne_iff_ne.2 hc
      have g2 : (cx == 0) = false := beq_eq_false_iff_ne.2 hc
      clear hok hc
      go_wp2_with (first | (go_at_call 14; refine (hputh.out).mono ?_; rintro e w80 ⟨rfl, hB80⟩; have Z80 := Z53.pure hB80; have E80 := hE.pure hB80; have S80 := S53.pure hB80; have P80 := P53.pure hB80; have R80 := hrd.out.pure hB80; have hT80 := hT53.trans (hB80.mono hT53.size); clear p0 p1 p2 p3 p4 p5 p6 p7; have p0 := P80.at 0 rfl; have p1 := P80.at 1 rfl; have p2 := P80.at 2 rfl; have p3 := P80.at 3 rfl; have p4 := P80.at 4 rfl; have p5 := P80.at 5 rfl; have p6 := P80.at 6 rfl; have p7 := P80.at 7 rfl; have z0 := Z80.at 0 rfl; have z1 := Z80.at 1 rfl; have z2 := Z80.at 2 rfl; have z3 := Z80.at 3 rfl; have z4 := Z80.at 4 rfl; have z5 := Z80.at 5 rfl; have z6 := Z80.at 6 rfl; have z7 := Z80.at 7 rfl; have y0 := Z80.frozen 0; have y1 := Z80.frozen 1; have y2 := Z80.frozen 2; have y3 := Z80.frozen 3; have y4 := Z80.frozen 4; have y5 := Z80.frozen 5; have y6 := Z80.frozen 6; have y7 := Z80.frozen 7; have tt80 := E80.b.at 0 rfl; have ss80 := S80.at 0 rfl) | (go_at_call 43; (with_reducible refine (bad_any _ rb vb rE1 _ E80.p E80.s).mono ?_); rintro e _ ⟨rfl, rfl⟩))
      have hgo := hgoh.out
      have hv := Upd.at8 w80 (w.heap.size + 1) (.int .u8 0) (.string ⟨#[]⟩) (.int .u64 0) (.int .u32 0) (.string ⟨#[]⟩) (.string ⟨#[]⟩) (.slice none 0 0) (.slice none 0 0)
      have K9 := Z80.fresh8 (.int .u8 0) (.string ⟨#[]⟩) (.int .u64 0) (.int .u32 0) (.string ⟨#[]⟩) (.string ⟨#[]⟩) (.slice none 0 0) (.slice none 0 0)
      unfold set8 at hv K9
      have k0 := K9.at 0 rfl; have k1 := K9.at 1 rfl; have k2 := K9.at 2 rfl; have k3 := K9.at 3 rfl; have k4 := K9.at 4 rfl; have k5 := K9.at 5 rfl; have k6 := K9.at 6 rfl; have k7 := K9.at 7 rfl
      refine bodyPost_ret (by simp [results, Tryd.results15, go_sem, k0, k1, k2, k3, k4, k5, k6, k7]; rfl) rfl ?_
      have hTz := hT80.trans (hv.below hT80.size (fun i e => by omega))
      exact ⟨(EnT.mk 0 ⟨#[]⟩ 0 (0, ⟨#[]⟩, ⟨#[]⟩) (.slice none 0 0) (.slice none 0 0) [] []), by rw [hgo]; rfl, by rw [hgo]; rfl, zen_rd, hTz⟩
    subst hc
    have hne : tx ≠ s := fun e => hok ⟨rfl, rfl, e⟩
    have g1 : ¬ tx.toList = s.toList := ba_toList_ne hne
    have g2 : (tx.toList == s.toList) = false := beq_eq_false_iff_ne.2 g1
    have g3 : (tx != s) = true := ba_bne hne
    clear hok hne
    go_wp2_with (first | (go_at_call 14; refine (hputh.out).mono ?_; rintro e w80 ⟨rfl, hB80⟩; have Z80 := Z53.pure hB80; have E80 := hE.pure hB80; have S80 := S53.pure hB80; have P80 := P53.pure hB80; have R80 := hrd.out.pure hB80; have hT80 := hT53.trans (hB80.mono hT53.size); clear p0 p1 p2 p3 p4 p5 p6 p7; have p0 := P80.at 0 rfl; have p1 := P80.at 1 rfl; have p2 := P80.at 2 rfl; have p3 := P80.at 3 rfl; have p4 := P80.at 4 rfl; have p5 := P80.at 5 rfl; have p6 := P80.at 6 rfl; have p7 := P80.at 7 rfl; have z0 := Z80.at 0 rfl; have z1 := Z80.at 1 rfl; have z2 := Z80.at 2 rfl; have z3 := Z80.at 3 rfl; have z4 := Z80.at 4 rfl; have z5 := Z80.at 5 rfl; have z6 := Z80.at 6 rfl; have z7 := Z80.at 7 rfl; have y0 := Z80.frozen 0; have y1 := Z80.frozen 1; have y2 := Z80.frozen 2; have y3 := Z80.frozen 3; have y4 := Z80.frozen 4; have y5 := Z80.frozen 5; have y6 := Z80.frozen 6; have y7 := Z80.frozen 7; have tt80 := E80.b.at 0 rfl; have ss80 := S80.at 0 rfl) | (go_at_call 43; (with_reducible refine (bad_any _ rb vb rE1 _ E80.p E80.s).mono ?_); rintro e _ ⟨rfl, rfl⟩))
    have hgo := hgoh.out
    have hv := Upd.at8 w80 (w.heap.size + 1) (.int .u8 0) (.string ⟨#[]⟩) (.int .u64 0) (.int .u32 0) (.string ⟨#[]⟩) (.string ⟨#[]⟩) (.slice none 0 0) (.slice none 0 0)
    have K9 := Z80.fresh8 (.int .u8 0) (.string ⟨#[]⟩) (.int .u64 0) (.int .u32 0) (.string ⟨#[]⟩) (.string ⟨#[]⟩) (.slice none 0 0) (.slice none 0 0)
    unfold set8 at hv K9
    have k0 := K9.at 0 rfl; have k1 := K9.at 1 rfl; have k2 := K9.at 2 rfl; have k3 := K9.at 3 rfl; have k4 := K9.at 4 rfl; have k5 := K9.at 5 rfl; have k6 := K9.at 6 rfl; have k7 := K9.at 7 rfl
    refine bodyPost_ret (by simp [results, Tryd.results15, go_sem, k0, k1, k2, k3, k4, k5, k6, k7]; rfl) rfl ?_
    have hTz := hT80.trans (hv.below hT80.size (fun i e => by omega))
    exact ⟨(EnT.mk 0 ⟨#[]⟩ 0 (0, ⟨#[]⟩, ⟨#[]⟩) (.slice none 0 0) (.slice none 0 0) [] []), by rw [hgo]; rfl, by rw [hgo]; rfl, zen_rd, hTz⟩
  · have nN : uN (k : Int) = false := by unfold uN; rw [h]; rfl
    have nM : uM (k : Int) = false := by unfold uM; rw [h]; rfl
    have nX : uX (k : Int) = true := by unfold uX; rw [h]; rfl
    have nW : uW (k : Int) = true := by unfold uW; rw [h]; rfl
    rw [show (us (k : Int) % 2 == 1) = false from nN] at b1
    rw [show (us (k : Int) / 2 % 2 == 1) = false from nM] at b2
    rw [show (us (k : Int) / 4 % 2 == 1) = true from nX] at b4
    rw [show (us (k : Int) / 8 % 2 == 1) = true from nW] at b8
    obtain ⟨⟨xf, rx1⟩, hx1⟩ : ∃ x, nmR 4 r1 = x := ⟨_, rfl⟩
    obtain ⟨⟨xg, rx2⟩, hx2⟩ : ∃ x, txR 1 255 rx1 = x := ⟨_, rfl⟩
    obtain ⟨⟨xb, rx3⟩, hx3⟩ : ∃ x, txR 1 255 rx2 = x := ⟨_, rfl⟩
    have lx1 := Lib.hid (show rx1.1.length ≤ r1.1.length by have := nmR_le 4 r1; rw [hx1] at this; exact this)
    have lx2 := Lib.hid (show rx2.1.length ≤ rx1.1.length by have := txR_le 1 255 rx1; rw [hx2] at this; exact this)
    have lx3 := Lib.hid (show rx3.1.length ≤ rx2.1.length by have := txR_le 1 255 rx2; rw [hx3] at this; exact this)
    have hxl : xf < 4294967296 := by have := nmR_lt 4 r1; rw [hx1] at this; exact this
    have hxw : IntKind.u32.wrap (xf : Int) = (xf : Int) := u32_wrap _ (by omega) (by omega)
    have hx1h := Lib.hid hx1; have hx2h := Lib.hid hx2; have hx3h := Lib.hid hx3
    have hpq0 := Lib.hid (hegh.out ⟨#[]⟩ r1 0 r1 (xf, xg, xb) rx3 (rdW L.length rx3) (by rw [nN]; rfl) (by rw [nM]; rfl) (by rw [nX]; rw [if_pos rfl]; unfold rdX; rw [hx1]; dsimp only; rw [hx2]; dsimp only; rw [hx3]) (by rw [nW]; rfl))
    clear nN nM nX nW hx1 hx2 hx3 hxl
    obtain ⟨u, hue⟩ : ∃ u, us (k : Int) = u := ⟨_, rfl⟩
    rw [hue] at b1 b2 b4 b8
    try rw [hue]
    clear h hue
    have tt7 := E7.b.at 0 rfl
    go_upto_region 12 with (first | (go_at_call 36; refine (pnum_rs _ rb vb r1 4 E7.p E7.s (by unfold Wd; omega) E7.l).mono ?_; rintro e w8 ⟨he, hs8, hu8⟩; simp only [hx1h.out] at he hs8; subst he; have E8 := E7.next hu8 hs8 lx1.out; have S8 := S7.upd hu8 (fun e => by have h1 := hvb.out; have h2 := hvt.out; have h3 := hpb.out; unfold Only at e; omega); have Z8 := Z7.upd hu8 (fun e => by have h1 := hvb.out; have h2 := hvt.out; have h3 := hpb.out; unfold Only at e; omega); have P8 := P7.upd hu8 (fun e => by have h1 := hvb.out; have h2 := hvt.out; have h3 := hpb.out; unfold Only at e; omega); have hT8 := below_only hT7 hu8 (by have h1 := hvb.out; omega) hT7.size; have tt8 := E8.b.at 0 rfl) | (go_at_call 37; refine (ptext_rs _ rb vb rx1 1 255 E8.p E8.s (by omega) E8.l (by unfold Big; omega)).mono ?_; rintro e w9 ⟨he, hs9, hu9⟩; simp only [hx2h.out] at he hs9; subst he; have E9 := E8.next hu9 hs9 lx2.out; have S9 := S8.upd hu9 (fun e => by have h1 := hvb.out; have h2 := hvt.out; have h3 := hpb.out; unfold Only at e; omega); have Z9 := Z8.upd hu9 (fun e => by have h1 := hvb.out; have h2 := hvt.out; have h3 := hpb.out; unfold Only at e; omega); have P9 := P8.upd hu9 (fun e => by have h1 := hvb.out; have h2 := hvt.out; have h3 := hpb.out; unfold Only at e; omega); have hT9 := below_only hT8 hu9 (by have h1 := hvb.out; omega) hT8.size; have tt9 := E9.b.at 0 rfl) | (go_at_call 37; refine (ptext_rs _ rb vb rx2 1 255 E9.p E9.s (by omega) E9.l (by unfold Big; omega)).mono ?_; rintro e w10 ⟨he, hs10, hu10⟩; simp only [hx3h.out] at he hs10; subst he; have E10 := E9.next hu10 hs10 lx3.out; have S10 := S9.upd hu10 (fun e => by have h1 := hvb.out; have h2 := hvt.out; have h3 := hpb.out; unfold Only at e; omega); have Z10 := Z9.upd hu10 (fun e => by have h1 := hvb.out; have h2 := hvt.out; have h3 := hpb.out; unfold Only at e; omega); have P10 := P9.upd hu10 (fun e => by have h1 := hvb.out; have h2 := hvt.out; have h3 := hpb.out; unfold Only at e; omega); have hT10 := below_only hT9 hu10 (by have h1 := hvb.out; omega) hT9.size; have tt10 := E10.b.at 0 rfl; have pp3 := P10.at 3 rfl; have yy3 := P10.frozen 3; have pp4 := P10.at 4 rfl; have yy4 := P10.frozen 4; have pp5 := P10.at 5 rfl; have yy5 := P10.frozen 5))
    have hu11 := (upd_set _ w6.heap.size 5 (.string xb) ((upd_set _ w6.heap.size 4 (.string xg) ((upd_set _ w6.heap.size 3 (.int .u32 xf) (Upd.refl (fun k => k = w6.heap.size) w10) rfl)) rfl)) rfl)
    have P11 : Blk _ w6.heap.size [.int .u8 k, .string ⟨#[]⟩, .int .u64 0, .int .u32 xf, .string xg, .string xb, .slice none 0 0, .slice none 0 0] := (((P10.set 3 (.int .u32 xf)).set 4 (.string xg)).set 5 (.string xb))
    have E11 := E10.other hu11 (fun k e => by have h3 := hpb.out; omega)
    have S11 := S10.upd hu11 (fun e => by have h1 := hvb.out; have h2 := hvt.out; have h3 := hpb.out; omega)
    have Z11 := Z10.upd hu11 (fun e => by have h1 := hvb.out; have h2 := hvt.out; have h3 := hpb.out; omega)
    have hT11 := hT10.trans (hu11.below hT10.size (fun i e => by have h1 := hvb.out; have h2 := hvt.out; have h3 := hpb.out; omega))
    generalize World.setCell (World.setCell (World.setCell w10 _ _) _ _) _ _ = w11 at *
    clear pp3 yy3 pp4 yy4 pp5 yy5 tt10
    have tt11 := E11.b.at 0 rfl
    try clear tt8 tt9
    have hpj := Lib.hid (show w6.heap.size < w11.heap.size from P11.lt)
    go_upto_region 14 with (go_at_call 38; refine (getall1_any _ w4.heap.size w.heap.size rb vb rx3 s E11 S11 (by have h1 := hvb.out; omega) hsz.out (fun v hv => hT.pure (below_only hT11 hv (by have h1 := hvb.out; omega) hT11.size))).mono ?_; rintro e wA ⟨v, puts, he, hpm, G⟩; obtain ⟨pa, pc, rfl⟩ := own_lenB G.o; subst he; have hpmh := Lib.hid hpm; clear hpm; have E50 := G.e; have S50 := G.b; have hG := Lib.hid (And.intro G.o G.rd); have Z50 := Z11.upd G.up (fun e => by have h1 := hvb.out; have h2 := hvt.out; have h3 := hpb.out; unfold Only at e; omega); have P50 := P11.upd G.up (fun e => by have h1 := hvb.out; have h2 := hvt.out; have h3 := hpb.out; unfold Only at e; omega); have hT50 := below_only hT11 G.up (by have h1 := hvb.out; omega) hT11.size; clear G; have tt50 := E50.b.at 0 rfl; have pp6 := P50.at 6 rfl; have yy6 := P50.frozen 6)
    have hu51 := (upd_set _ w6.heap.size 6 (.slice pa puts.length pc) (Upd.refl (fun k => k = w6.heap.size) wA) rfl)
    have P51 : Blk _ w6.heap.size [.int .u8 k, .string ⟨#[]⟩, .int .u64 0, .int .u32 xf, .string xg, .string xb, .slice pa puts.length pc, .slice none 0 0] := (P50.set 6 (.slice pa puts.length pc))
    have E51 := E50.other hu51 (fun k e => by have h3 := hpb.out; omega)
    have S51 := S50.upd hu51 (fun e => by have h1 := hvb.out; have h2 := hvt.out; have h3 := hpb.out; omega)
    have Z51 := Z50.upd hu51 (fun e => by have h1 := hvb.out; have h2 := hvt.out; have h3 := hpb.out; omega)
    have hT51 := hT50.trans (hu51.below hT50.size (fun i e => by have h1 := hvb.out; have h2 := hvt.out; have h3 := hpb.out; omega))
    generalize World.setCell wA _ _ = w51 at *
    clear pp6 yy6 tt50
    have tt51 := E51.b.at 0 rfl
    have O51 := hG.out.1.upd hu51 (fun i hi e => by have h1 := hG.out.1.ge hi; have h2 := hpj.out; omega)
    have R51 := Lib.hid (fun x hx => (hG.out.2 x hx).upd hu51 (fun i hi e => by have h1 := hi.1; have h2 := hpj.out; omega))
    go_upto_region 15 with (go_at_call 41; refine (getall2_any _ w4.heap.size rb vb (gtA (rdPt s.size) (nmR 1 rx3).1 (nmR 1 rx3).2).2 E51).mono ?_; rintro e wB ⟨v, takes, he, htm, H⟩; obtain ⟨ta, tc, rfl⟩ := own_lenB H.o; subst he; have htmh := Lib.hid htm; clear htm; have E52 := H.e; have hHo := Lib.hid H.o; have S52 := S51.upd H.up (fun e => by have h1 := hvb.out; have h2 := hvt.out; have h3 := hpb.out; unfold Only at e; omega); have Z52 := Z51.upd H.up (fun e => by have h1 := hvb.out; have h2 := hvt.out; have h3 := hpb.out; unfold Only at e; omega); have P52 := P51.upd H.up (fun e => by have h1 := hvb.out; have h2 := hvt.out; have h3 := hpb.out; unfold Only at e; omega); have O52 := O51.upd H.up (fun i hi e => by have h1 := hG.out.1.ge hi; have h2 := hpj.out; have h3 := hvt.out; have h4 := hpb.out; unfold Only at e; omega); have R52 := Lib.hid (fun x hx => (R51.out x hx).upd H.up (fun i hi e => by have h1 := hi.1; have h2 := hpj.out; have h3 := hvt.out; have h4 := hpb.out; unfold Only at e; omega)); have hT52 := below_only hT51 H.up (by have h1 := hvb.out; omega) hT51.size; have hb51 := Lib.hid (show w6.heap.size < w51.heap.size from P51.lt); clear H; have tt52 := E52.b.at 0 rfl; have pp7 := P52.at 7 rfl; have yy7 := P52.frozen 7)
    have hu53 := (upd_set _ w6.heap.size 7 (.slice ta takes.length tc) (Upd.refl (fun k => k = w6.heap.size) wB) rfl)
    have P53 : Blk _ w6.heap.size [.int .u8 k, .string ⟨#[]⟩, .int .u64 0, .int .u32 xf, .string xg, .string xb, .slice pa puts.length pc, .slice ta takes.length tc] := (P52.set 7 (.slice ta takes.length tc))
    have E53 := E52.other hu53 (fun k e => by have h3 := hpb.out; omega)
    have S53 := S52.upd hu53 (fun e => by have h1 := hvb.out; have h2 := hvt.out; have h3 := hpb.out; omega)
    have Z53 := Z52.upd hu53 (fun e => by have h1 := hvb.out; have h2 := hvt.out; have h3 := hpb.out; omega)
    have hT53 := hT52.trans (hu53.below hT52.size (fun i e => by have h1 := hvb.out; have h2 := hvt.out; have h3 := hpb.out; omega))
    generalize World.setCell wB _ _ = w53 at *
    clear pp7 yy7 tt52
    have tt53 := E53.b.at 0 rfl
    have O53 := O52.upd hu53 (fun i hi e => by have h1 := hG.out.1.ge hi; have h2 := hpj.out; omega)
    have R53 := Lib.hid (fun x hx => (R52.out x hx).upd hu53 (fun i hi e => by have h1 := hi.1; have h2 := hpj.out; omega))
    have H53 := hHo.out.upd hu53 (fun i hi e => by have h1 := hHo.out.ge hi; have h2 := hb51.out; omega)
    have hwj := Lib.hid (show w.heap.size ≤ w11.heap.size from hT11.size)
    have hw51 := Lib.hid (show w.heap.size ≤ w51.heap.size from hT51.size)
    have hpq := Lib.hid (show egP L = ((EnT.mk (k : Int) ⟨#[]⟩ (0 : Int) ((xf : Int), xg, xb) (.slice pa puts.length pc) (.slice ta takes.length tc) puts takes).e, (gtA rdRf (nmR 1 (gtA (rdPt s.size) (nmR 1 rx3).1 (nmR 1 rx3).2).2).1 (nmR 1 (gtA (rdPt s.size) (nmR 1 rx3).1 (nmR 1 rx3).2).2).2).2) by rw [hpq0.out, hLlh.out]; unfold EnT.e rdW; dsimp only; rw [hpmh.out, htmh.out]; try rfl)
    have hwf := Lib.hid (show (EnT.mk (k : Int) ⟨#[]⟩ (0 : Int) ((xf : Int), xg, xb) (.slice pa puts.length pc) (.slice ta takes.length tc) puts takes).e.Wf by have h9 := egP_wf L; rw [hpq.out] at h9; exact h9)
    have hrd := Lib.hid (show EnRd (fun i => w.heap.size ≤ i) w53 (EnT.mk (k : Int) ⟨#[]⟩ (0 : Int) ((xf : Int), xg, xb) (.slice pa puts.length pc) (.slice ta takes.length tc) puts takes) from ⟨O53.slc ptEnc_len, (fun i hi _ => by have h1 := hG.out.1.ge hi; have h2 := hwj.out; omega), fun x hx => (R53.out x hx).weaken (fun i _ hi => by have h1 := hi.1; have h2 := hwj.out; omega), H53.slc rfEnc_len, (fun i hi _ => by have h1 := hHo.out.ge hi; have h2 := hw51.out; omega), hwf.out⟩)
    obtain ⟨q, hq⟩ : ∃ q, (EnT.mk (k : Int) ⟨#[]⟩ (0 : Int) ((xf : Int), xg, xb) (.slice pa puts.length pc) (.slice ta takes.length tc) puts takes).e = q := ⟨_, rfl⟩
    have hput := eput_any (EnT.mk (k : Int) ⟨#[]⟩ (0 : Int) ((xf : Int), xg, xb) (.slice pa puts.length pc) (.slice ta takes.length tc) puts takes) (fun i => w.heap.size ≤ i) w53 hrd.out (hT.pure hT53)
    obtain ⟨cx, hcx⟩ : ∃ cx, q.chk = cx := ⟨_, rfl⟩
    obtain ⟨tx, htx⟩ : ∃ tx, (if cx = 0 then q.text else (⟨#[]⟩ : ByteArray)) = tx := ⟨_, rfl⟩
    rw [hq, hcx, htx, EnT.arg_mk] at hput
    have hpqq := hpq.out
    rw [hq] at hpqq
    have hpq2 := Lib.hid hpqq
    have hputh := Lib.hid hput; have hqh := Lib.hid hq; have hcxh := Lib.hid hcx; have htxh := Lib.hid htx
    clear hput hq hcx htx hpqq
    obtain ⟨⟨rE1, bad⟩, hrE⟩ : ∃ x, (gtA rdRf (nmR 1 (gtA (rdPt s.size) (nmR 1 rx3).1 (nmR 1 rx3).2).2).1 (nmR 1 (gtA (rdPt s.size) (nmR 1 rx3).1 (nmR 1 rx3).2).2).2).2 = x := ⟨_, rfl⟩
    have hpq3 := hpq2.out
    rw [hrE] at hpq3
    have hpq3 := Lib.hid hpq3
    have hE := E53
    rw [hrE] at hE
    clear hrE
    have p0 := P53.at 0 rfl; have p1 := P53.at 1 rfl; have p2 := P53.at 2 rfl; have p3 := P53.at 3 rfl; have p4 := P53.at 4 rfl; have p5 := P53.at 5 rfl; have p6 := P53.at 6 rfl; have p7 := P53.at 7 rfl
    have hend0 := Lib.hid (fun (v : World) (hB : Below w53.heap.size w53 v) (v2 : World) (hu : Upd (fun i => i = w.heap.size + 1) v v2) => show EnRd (fun i => w.heap.size ≤ i) v2 (EnT.mk (k : Int) ⟨#[]⟩ (0 : Int) ((xf : Int), xg, xb) (.slice pa puts.length pc) (.slice ta takes.length tc) puts takes) from ⟨((O53.pure hB).upd hu (fun i hi e => by have h1 := hG.out.1.ge hi; have h2 := hpj.out; have h3 := hpb.out; have h4 := hvt.out; have h5 := hvb.out; omega)).slc ptEnc_len, (fun i hi _ => by have h1 := hG.out.1.ge hi; have h2 := hwj.out; omega), (fun x hx => (((R53.out x hx).pure hB).upd hu (fun i hi e => by have h1 := hi.1; have h2 := hpj.out; have h3 := hpb.out; have h4 := hvt.out; have h5 := hvb.out; omega)).weaken (fun i _ hi => by have h1 := hi.1; have h2 := hwj.out; omega)), ((H53.pure hB).upd hu (fun i hi e => by have h1 := hHo.out.ge hi; have h2 := hb51.out; have h3 := hpb.out; have h4 := hvt.out; have h5 := hvb.out; omega)).slc rfEnc_len, (fun i hi _ => by have h1 := hHo.out.ge hi; have h2 := hw51.out; omega), hwf.out⟩)
    by_cases hok : bad = false ∧ cx = 0 ∧ tx = s
    · obtain ⟨rfl, rfl, rfl⟩ := hok
      have hgoh := Lib.hid (egO_ok hpq3.out rfl hcxh.out (by have h1 := htxh.out; rw [if_pos rfl] at h1; exact (en_text.1 h1).trans hLeh.out))
      go_wp2_with (first | (go_at_call 14; refine (hputh.out).mono ?_; rintro e w80 ⟨rfl, hB80⟩; have Z80 := Z53.pure hB80; have E80 := hE.pure hB80; have S80 := S53.pure hB80; have P80 := P53.pure hB80; have R80 := hrd.out.pure hB80; have hT80 := hT53.trans (hB80.mono hT53.size); clear p0 p1 p2 p3 p4 p5 p6 p7; have p0 := P80.at 0 rfl; have p1 := P80.at 1 rfl; have p2 := P80.at 2 rfl; have p3 := P80.at 3 rfl; have p4 := P80.at 4 rfl; have p5 := P80.at 5 rfl; have p6 := P80.at 6 rfl; have p7 := P80.at 7 rfl; have z0 := Z80.at 0 rfl; have z1 := Z80.at 1 rfl; have z2 := Z80.at 2 rfl; have z3 := Z80.at 3 rfl; have z4 := Z80.at 4 rfl; have z5 := Z80.at 5 rfl; have z6 := Z80.at 6 rfl; have z7 := Z80.at 7 rfl; have y0 := Z80.frozen 0; have y1 := Z80.frozen 1; have y2 := Z80.frozen 2; have y3 := Z80.frozen 3; have y4 := Z80.frozen 4; have y5 := Z80.frozen 5; have y6 := Z80.frozen 6; have y7 := Z80.frozen 7; have tt80 := E80.b.at 0 rfl; have ss80 := S80.at 0 rfl) | (go_at_call 43; (with_reducible refine (bad_any _ rb vb rE1 _ E80.p E80.s).mono ?_); rintro e _ ⟨rfl, rfl⟩))
      have hgo := hgoh.out
      have hend := Lib.hid (fun (v2 : World) (hu : Upd (fun i => i = w.heap.size + 1) w80 v2) => hend0.out w80 hB80 v2 hu)
      have hv := Upd.at8 w80 (w.heap.size + 1) (.int .u8 k) (.string ⟨#[]⟩) (.int .u64 0) (.int .u32 xf) (.string xg) (.string xb) (.slice pa puts.length pc) (.slice ta takes.length tc)
      have K9 := Z80.fresh8 (.int .u8 k) (.string ⟨#[]⟩) (.int .u64 0) (.int .u32 xf) (.string xg) (.string xb) (.slice pa puts.length pc) (.slice ta takes.length tc)
      have R9 := R80
      unfold set8 at hv K9
      have k0 := K9.at 0 rfl; have k1 := K9.at 1 rfl; have k2 := K9.at 2 rfl; have k3 := K9.at 3 rfl; have k4 := K9.at 4 rfl; have k5 := K9.at 5 rfl; have k6 := K9.at 6 rfl; have k7 := K9.at 7 rfl
      refine bodyPost_ret (by simp [results, Tryd.results15, go_sem, k0, k1, k2, k3, k4, k5, k6, k7]; rfl) rfl ?_
      have hTz := hT80.trans (hv.below hT80.size (fun i e => by omega))
      exact ⟨(EnT.mk (k : Int) ⟨#[]⟩ (0 : Int) ((xf : Int), xg, xb) (.slice pa puts.length pc) (.slice ta takes.length tc) puts takes), by rw [hgo]; rfl, by rw [hgo]; exact hqh.out, hend.out _ hv, hTz⟩
    have hgoh := Lib.hid (show egO L = none from egO_no hpq3.out (fun e => hok ⟨e.1, hcxh.out.symm.trans e.2.1, by have h1 := htxh.out; rw [if_pos (hcxh.out.symm.trans e.2.1)] at h1; rw [← h1]; exact en_text.2 (e.2.2.trans hLeh.out.symm)⟩))
    cases bad
    rotate_left 1
    · clear hok
      go_wp2_with (first | (go_at_call 14; refine (hputh.out).mono ?_; rintro e w80 ⟨rfl, hB80⟩; have Z80 := Z53.pure hB80; have E80 := hE.pure hB80; have S80 := S53.pure hB80; have P80 := P53.pure hB80; have R80 := hrd.out.pure hB80; have hT80 := hT53.trans (hB80.mono hT53.size); clear p0 p1 p2 p3 p4 p5 p6 p7; have p0 := P80.at 0 rfl; have p1 := P80.at 1 rfl; have p2 := P80.at 2 rfl; have p3 := P80.at 3 rfl; have p4 := P80.at 4 rfl; have p5 := P80.at 5 rfl; have p6 := P80.at 6 rfl; have p7 := P80.at 7 rfl; have z0 := Z80.at 0 rfl; have z1 := Z80.at 1 rfl; have z2 := Z80.at 2 rfl; have z3 := Z80.at 3 rfl; have z4 := Z80.at 4 rfl; have z5 := Z80.at 5 rfl; have z6 := Z80.at 6 rfl; have z7 := Z80.at 7 rfl; have y0 := Z80.frozen 0; have y1 := Z80.frozen 1; have y2 := Z80.frozen 2; have y3 := Z80.frozen 3; have y4 := Z80.frozen 4; have y5 := Z80.frozen 5; have y6 := Z80.frozen 6; have y7 := Z80.frozen 7; have tt80 := E80.b.at 0 rfl; have ss80 := S80.at 0 rfl) | (go_at_call 43; (with_reducible refine (bad_any _ rb vb rE1 _ E80.p E80.s).mono ?_); rintro e _ ⟨rfl, rfl⟩))
      have hgo := hgoh.out
      have hv := Upd.at8 w80 (w.heap.size + 1) (.int .u8 0) (.string ⟨#[]⟩) (.int .u64 0) (.int .u32 0) (.string ⟨#[]⟩) (.string ⟨#[]⟩) (.slice none 0 0) (.slice none 0 0)
      have K9 := Z80.fresh8 (.int .u8 0) (.string ⟨#[]⟩) (.int .u64 0) (.int .u32 0) (.string ⟨#[]⟩) (.string ⟨#[]⟩) (.slice none 0 0) (.slice none 0 0)
      unfold set8 at hv K9
      have k0 := K9.at 0 rfl; have k1 := K9.at 1 rfl; have k2 := K9.at 2 rfl; have k3 := K9.at 3 rfl; have k4 := K9.at 4 rfl; have k5 := K9.at 5 rfl; have k6 := K9.at 6 rfl; have k7 := K9.at 7 rfl
      refine bodyPost_ret (by simp [results, Tryd.results15, go_sem, k0, k1, k2, k3, k4, k5, k6, k7]; rfl) rfl ?_
      have hTz := hT80.trans (hv.below hT80.size (fun i e => by omega))
      exact ⟨(EnT.mk 0 ⟨#[]⟩ 0 (0, ⟨#[]⟩, ⟨#[]⟩) (.slice none 0 0) (.slice none 0 0) [] []), by rw [hgo]; rfl, by rw [hgo]; rfl, zen_rd, hTz⟩
    by_cases hc : cx = 0
    rotate_left 1
    · have g1 : (cx != 0) = true := bne_iff_ne.2 hc
      have g2 : (cx == 0) = false := beq_eq_false_iff_ne.2 hc
      clear hok hc
      go_wp2_with (first | (go_at_call 14; refine (hputh.out).mono ?_; rintro e w80 ⟨rfl, hB80⟩; have Z80 := Z53.pure hB80; have E80 := hE.pure hB80; have S80 := S53.pure hB80; have P80 := P53.pure hB80; have R80 := hrd.out.pure hB80; have hT80 := hT53.trans (hB80.mono hT53.size); clear p0 p1 p2 p3 p4 p5 p6 p7; have p0 := P80.at 0 rfl; have p1 := P80.at 1 rfl; have p2 := P80.at 2 rfl; have p3 := P80.at 3 rfl; have p4 := P80.at 4 rfl; have p5 := P80.at 5 rfl; have p6 := P80.at 6 rfl; have p7 := P80.at 7 rfl; have z0 := Z80.at 0 rfl; have z1 := Z80.at 1 rfl; have z2 := Z80.at 2 rfl; have z3 := Z80.at 3 rfl; have z4 := Z80.at 4 rfl; have z5 := Z80.at 5 rfl; have z6 := Z80.at 6 rfl; have z7 := Z80.at 7 rfl; have y0 := Z80.frozen 0; have y1 := Z80.frozen 1; have y2 := Z80.frozen 2; have y3 := Z80.frozen 3; have y4 := Z80.frozen 4; have y5 := Z80.frozen 5; have y6 := Z80.frozen 6; have y7 := Z80.frozen 7; have tt80 := E80.b.at 0 rfl; have ss80 := S80.at 0 rfl) | (go_at_call 43; (with_reducible refine (bad_any _ rb vb rE1 _ E80.p E80.s).mono ?_); rintro e _ ⟨rfl, rfl⟩))
      have hgo := hgoh.out
      have hv := Upd.at8 w80 (w.heap.size + 1) (.int .u8 0) (.string ⟨#[]⟩) (.int .u64 0) (.int .u32 0) (.string ⟨#[]⟩) (.string ⟨#[]⟩) (.slice none 0 0) (.slice none 0 0)
      have K9 := Z80.fresh8 (.int .u8 0) (.string ⟨#[]⟩) (.int .u64 0) (.int .u32 0) (.string ⟨#[]⟩) (.string ⟨#[]⟩) (.slice none 0 0) (.slice none 0 0)
      unfold set8 at hv K9
      have k0 := K9.at 0 rfl; have k1 := K9.at 1 rfl; have k2 := K9.at 2 rfl; have k3 := K9.at 3 rfl; have k4 := K9.at 4 rfl; have k5 := K9.at 5 rfl; have k6 := K9.at 6 rfl; have k7 := K9.at 7 rfl
      refine bodyPost_ret (by simp [results, Tryd.results15, go_sem, k0, k1, k2, k3, k4, k5, k6, k7]; rfl) rfl ?_
      have hTz := hT80.trans (hv.below hT80.size (fun i e => by omega))
      exact ⟨(EnT.mk 0 ⟨#[]⟩ 0 (0, ⟨#[]⟩, ⟨#[]⟩) (.slice none 0 0) (.slice none 0 0) [] []), by rw [hgo]; rfl, by rw [hgo]; rfl, zen_rd, hTz⟩
    subst hc
    have hne : tx ≠ s := fun e => hok ⟨rfl, rfl, e⟩
    have g1 : ¬ tx.toList = s.toList := ba_toList_ne hne
    have g2 : (tx.toList == s.toList) = false := beq_eq_false_iff_ne.2 g1
    have g3 : (tx != s) = true := ba_bne hne
    clear hok hne
    go_wp2_with (first | (go_at_call 14; refine (hputh.out).mono ?_; rintro e w80 ⟨rfl, hB80⟩; have Z80 := Z53.pure hB80; have E80 := hE.pure hB80; have S80 := S53.pure hB80; have P80 := P53.pure hB80; have R80 := hrd.out.pure hB80; have hT80 := hT53.trans (hB80.mono hT53.size); clear p0 p1 p2 p3 p4 p5 p6 p7; have p0 := P80.at 0 rfl; have p1 := P80.at 1 rfl; have p2 := P80.at 2 rfl; have p3 := P80.at 3 rfl; have p4 := P80.at 4 rfl; have p5 := P80.at 5 rfl; have p6 := P80.at 6 rfl; have p7 := P80.at 7 rfl; have z0 := Z80.at 0 rfl; have z1 := Z80.at 1 rfl; have z2 := Z80.at 2 rfl; have z3 := Z80.at 3 rfl; have z4 := Z80.at 4 rfl; have z5 := Z80.at 5 rfl; have z6 := Z80.at 6 rfl; have z7 := Z80.at 7 rfl; have y0 := Z80.frozen 0; have y1 := Z80.frozen 1; have y2 := Z80.frozen 2; have y3 := Z80.frozen 3; have y4 := Z80.frozen 4; have y5 := Z80.frozen 5; have y6 := Z80.frozen 6; have y7 := Z80.frozen 7; have tt80 := E80.b.at 0 rfl; have ss80 := S80.at 0 rfl) | (go_at_call 43; (with_reducible refine (bad_any _ rb vb rE1 _ E80.p E80.s).mono ?_); rintro e _ ⟨rfl, rfl⟩))
    have hgo := hgoh.out
    have hv := Upd.at8 w80 (w.heap.size + 1) (.int .u8 0) (.string ⟨#[]⟩) (.int .u64 0) (.int .u32 0) (.string ⟨#[]⟩) (.string ⟨#[]⟩) (.slice none 0 0) (.slice none 0 0)
    have K9 := Z80.fresh8 (.int .u8 0) (.string ⟨#[]⟩) (.int .u64 0) (.int .u32 0) (.string ⟨#[]⟩) (.string ⟨#[]⟩) (.slice none 0 0) (.slice none 0 0)
    unfold set8 at hv K9
    have k0 := K9.at 0 rfl; have k1 := K9.at 1 rfl; have k2 := K9.at 2 rfl; have k3 := K9.at 3 rfl; have k4 := K9.at 4 rfl; have k5 := K9.at 5 rfl; have k6 := K9.at 6 rfl; have k7 := K9.at 7 rfl
    refine bodyPost_ret (by simp [results, Tryd.results15, go_sem, k0, k1, k2, k3, k4, k5, k6, k7]; rfl) rfl ?_
    have hTz := hT80.trans (hv.below hT80.size (fun i e => by omega))
    exact ⟨(EnT.mk 0 ⟨#[]⟩ 0 (0, ⟨#[]⟩, ⟨#[]⟩) (.slice none 0 0) (.slice none 0 0) [] []), by rw [hgo]; rfl, by rw [hgo]; rfl, zen_rd, hTz⟩
end Go.Proofs.YtflglpbjapgciaaDoor
