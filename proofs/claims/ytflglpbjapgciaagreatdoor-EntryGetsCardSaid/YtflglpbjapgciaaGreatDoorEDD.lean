/- Entries: the document's Put. Condition: texts are short enough to be in memory. Written by gen_edD.py. -/
import Derived.Test.YtflglpbjapgciaaGreatDoorEDC
set_option linter.unusedSimpArgs false
set_option linter.unusedVariables false
namespace Go.Proofs.YtflglpbjapgciaaGreatDoor
open Go.RowKit
theorem pt_str (L : List UInt8) (p : Pt) (tx : ByteArray) (h : p.pr.text = tx) : (((((bs L ++ bs (sT p.q)) ++ bs (be 8 p.id.toNat)) ++ bs (be 4 tx.size)) ++ tx) ++ bs (be 2 p.body.size)) ++ p.body = bs (L ++ p.bytes) := by
  have h1 : tx = bs p.pr.bytes := h.symm; have h2 : tx.size = p.pr.bytes.length := by rw [← h]; rfl
  rw [h2, h1, bs_app, bs_app, bs_app, bs_app, bs_app, bs_str]; congr 1; unfold Pt.bytes; simp only [List.append_assoc]
theorem rf_str (L : List UInt8) (r : Rf) : (bs L ++ bs (sT r.q)) ++ bs (be 8 r.id.toNat) = bs (L ++ r.bytes) := by
  rw [bs_app, bs_app]; unfold Rf.bytes; rw [List.append_assoc]
theorem bs_size (l : List UInt8) : (bs l).size = l.length := by simp [bs, ByteArray.size]
theorem cat_ok {a b : List UInt8} (h : (a ++ b).length ≤ 30000000) : ¬ 9223372036854775807 < (bs a).size + (bs b).size := by rw [bs_size, bs_size, ← List.length_append]; omega
theorem flat_succ {α : Type} (f : α → List UInt8) {L : List α} {k : Nat} (h : k < L.length) (P : List UInt8) : P ++ (L.take (k + 1)).flatMap f = (P ++ (L.take k).flatMap f) ++ f L[k] := by
  rw [List.take_succ_eq_append_getElem h, List.flatMap_append, List.append_assoc]; simp
set_option maxRecDepth 100000 in
set_option maxHeartbeats 25600000 in
theorem edput_any (t : EnT) (P : Nat → Prop) (w : World) (hR : EnRd P w t) (hz : t.e.Sz) : Calls Tryz.prog 9 #[t.arg] w fun e w' => e = .returned (.tuple #[.string (if t.e.chk = 0 then t.e.text else ⟨#[]⟩), .int .i64 t.e.chk]) ∧ Below w.heap.size w w' := by
  have hwf := Lib.hid hR.wf; obtain ⟨kind, name, n, xf, xg, xb, pa, pc, ta, tc, puts, takes, rfl, hpl, htl⟩ := hR.open; have hB1 := (Below.refl w.heap.size w).alloc (Nat.le_refl _) (.cells #[.int .u8 kind, .string name, .int .u64 n, .int .u32 xf, .string xg, .string xb, .slice pa puts.length pc, .slice ta takes.length tc] 29); have A1 := Blk.new w [.int .u8 kind, .string name, .int .u64 n, .int .u32 xf, .string xg, .string xb, .slice pa puts.length pc, .slice ta takes.length tc] 29; have R1 := hR.pure hB1; have hch := edcheck_any (EnT.mk kind name n (xf, xg, xb) (.slice pa puts.length pc) (.slice ta takes.length tc) puts takes) P _ R1 hz; obtain ⟨e0, he0⟩ : ∃ e, (EnT.mk kind name n (xf, xg, xb) (.slice pa puts.length pc) (.slice ta takes.length tc) puts takes).e = e := ⟨_, rfl⟩
  obtain ⟨cx, hcx⟩ : ∃ c, e0.chk = c := ⟨_, rfl⟩
  rw [he0, hcx] at hch ⊢; rw [EnT.arg_mk] at hch ⊢; have hchh := Lib.hid hch; have he0h := Lib.hid he0; have hcxh := Lib.hid hcx; have a0 := A1.at 0 rfl; have a1 := A1.at 1 rfl; have a2 := A1.at 2 rfl; have a3 := A1.at 3 rfl; have a4 := A1.at 4 rfl; have a5 := A1.at 5 rfl; have a6 := A1.at 6 rfl; have a7 := A1.at 7 rfl; clear hch hz; by_cases h0 : cx = 0
  rotate_left 1
  · have g1 : (cx != 0) = true := bne_iff_ne.2 h0; have g2 : (cx == 0) = false := beq_eq_false_iff_ne.2 h0; have hc9 := Lib.hid (show cx = 130 by rcases en_chk e0 with e | e; exact absurd (hcx.symm.trans e) h0; exact hcx.symm.trans e); rw [if_neg h0]; clear h0 he0 hcx hpl htl; go_enter Tryz.func9, Tryz.ntmps9; go_wp2_with (go_at_call 27; (with_reducible refine (hchh.out).mono ?_); rintro e w2 ⟨rfl, hB2⟩; have hT2 := hB1.trans (hB2.mono hB1.size)); go_ret2; exact ⟨by rw [hc9.out]; rfl, hT2⟩
  subst h0; rw [if_pos rfl]; have hok : e0.okB = true := en_ok.1 hcx; have hok2 := ok_eq kind name n xf xg xb (.slice pa puts.length pc) (.slice ta takes.length tc) puts takes; rw [he0, hok] at hok2; have hok3 := hok2.symm; simp only [Bool.and_eq_true] at hok3; obtain ⟨hu0, hc1, hc2, hc3, hc4, hwk⟩ := hok3; have hwk2 : (decide (puts.length ≤ 100) && decide (takes.length ≤ 100) && puts.all (fun p => Pt.okB (kind == 3) p.p) && takes.all Rf.okB) = true := hwk; simp only [Bool.and_eq_true, decide_eq_true_eq] at hwk2; obtain ⟨⟨⟨hp1, ht1⟩, hpo⟩, hto⟩ := hwk2; have hpoh := Lib.hid (List.all_eq_true.1 hpo); have htoh := Lib.hid (List.all_eq_true.1 hto); have hlen := Lib.hid (show puts.length ≤ 100 ∧ takes.length ≤ 100 from ⟨hp1, ht1⟩); have hk := hwf.out.k0; have hk1 := hwf.out.k1; have hn0 := hwf.out.n0; have hn1 := hwf.out.n1; have hx0 := hwf.out.x0; have hx1 := hwf.out.x1; have hpid := Lib.hid (show ∀ x ∈ puts, 0 ≤ x.id ∧ x.id < 18446744073709551616 from fun x hx => by have h := hwf.out.p x.p (List.mem_map.2 ⟨x, hx, rfl⟩); exact ⟨h.1, h.2.1⟩); have htid := Lib.hid (show ∀ r ∈ takes, 0 ≤ r.id ∧ r.id < 18446744073709551616 from hwf.out.t); have hk : 0 ≤ kind := hk; have hk1 : kind < 256 := hk1; have hn0 : 0 ≤ n := hn0; have hn1 : n < 18446744073709551616 := hn1; have hx0 : 0 ≤ xf := hx0; have hx1 : xf < 4294967296 := hx1; obtain ⟨nb, hnb⟩ : ∃ b, uN kind = b := ⟨_, rfl⟩
  obtain ⟨mb, hmb⟩ : ∃ b, uM kind = b := ⟨_, rfl⟩
  obtain ⟨xB, hxb⟩ : ∃ b, uX kind = b := ⟨_, rfl⟩
  obtain ⟨wb, hwb⟩ : ∃ b, uW kind = b := ⟨_, rfl⟩
  have hrow := fun (u : World) => row_any u kind
  simp only [hnb, hmb, hxb, hwb] at hrow; have hrow2 := Lib.hid hrow; rw [hnb] at hc1; rw [hxb] at hc3; rw [hwb] at hc4; have hns := Lib.hid (fun e : nb = true => show name.size ≤ 255 by rw [e, if_pos rfl] at hc1; have := qn_le hc1; omega); have hxs := Lib.hid (fun e : xB = true => show Xn.okB (xf, xg, xb) = true by rw [e, if_pos rfl] at hc3; exact hc3); obtain ⟨N1, hN1⟩ : ∃ l, (if nb then sT name else []) = l := ⟨_, rfl⟩
  obtain ⟨N2, hN2⟩ : ∃ l, (if mb then be 8 n.toNat else []) = l := ⟨_, rfl⟩
  obtain ⟨N3, hN3⟩ : ∃ l, (if xB then Xn.bytes (xf, xg, xb) else []) = l := ⟨_, rfl⟩
  have hby := Lib.hid (show e0.bytes = UInt8.ofNat kind.toNat :: (N1 ++ (N2 ++ (N3 ++ if wb then UInt8.ofNat puts.length :: ((puts.map PtT.p).flatMap Pt.bytes ++ UInt8.ofNat takes.length :: takes.flatMap Rf.bytes) else []))) by
    rw [← hN1, ← hN2, ← hN3, ← hnb, ← hmb, ← hxb, ← hwb, ← he0]; have hle : (EnT.mk kind name n (xf, xg, xb) (.slice pa puts.length pc) (.slice ta takes.length tc) puts takes).e.puts.length = puts.length := List.length_map _; unfold En.bytes
    rw [hle]; rfl)
  have hLL := en_len hcx; rw [hby.out] at hLL; simp only [List.length_cons, List.length_append] at hLL; obtain ⟨Q0, hQ0⟩ : ∃ l, [UInt8.ofNat kind.toNat] = l := ⟨_, rfl⟩
  obtain ⟨Q1, hQ1⟩ : ∃ l, Q0 ++ N1 = l := ⟨_, rfl⟩
  obtain ⟨Q2, hQ2⟩ : ∃ l, Q1 ++ N2 = l := ⟨_, rfl⟩
  obtain ⟨Q3, hQ3⟩ : ∃ l, Q2 ++ N3 = l := ⟨_, rfl⟩
  have hQ0h := Lib.hid hQ0; have hQ1h := Lib.hid hQ1; have hQ2h := Lib.hid hQ2; have hQ3h := Lib.hid hQ3
  have hLn := Lib.hid (show Q1.length ≤ 2000000 ∧ Q2.length ≤ 2000000 ∧ Q3.length ≤ 2000000 by
    rw [← hQ3, ← hQ2, ← hQ1, ← hQ0]; simp only [List.length_cons, List.length_append, List.length_nil]; omega)
  clear hQ0 hQ1 hQ2 hQ3 hLL; have hN1h := Lib.hid hN1; have hN2h := Lib.hid hN2; have hN3h := Lib.hid hN3; have kw : IntKind.u64.wrap kind = kind := wrap_u64 _ (by omega) (by omega); have hkh := Lib.hid (show 0 ≤ kind ∧ kind < 256 from ⟨hk, hk1⟩); have hnh := Lib.hid (show 0 ≤ n ∧ n < 18446744073709551616 from ⟨hn0, hn1⟩); have hxh := Lib.hid (show 0 ≤ xf ∧ xf < 4294967296 from ⟨hx0, hx1⟩); have pw : IntKind.u64.wrap (puts.length : Int) = (puts.length : Int) := wrap_u64 _ (by omega) (by omega); have tw : IntKind.u64.wrap (takes.length : Int) = (takes.length : Int) := wrap_u64 _ (by omega) (by omega); clear hok hok2 hu0 hc1 hc2 hc3 hc4 hwk hp1 ht1 hpo hto hk hk1 hn0 hn1 hx0 hx1 hnb hmb hxb hwb hrow hN1 hN2 hN3 he0 hcx hpl htl; have hAh := Lib.hid (fun (v : World) (h : Below (w.alloc (.cells #[.int .u8 kind, .string name, .int .u64 n, .int .u32 xf, .string xg, .string xb, .slice pa puts.length pc, .slice ta takes.length tc] 29)).heap.size (w.alloc (.cells #[.int .u8 kind, .string name, .int .u64 n, .int .u32 xf, .string xg, .string xb, .slice pa puts.length pc, .slice ta takes.length tc] 29)) v) => A1.pure h); have hRh := Lib.hid (fun (v : World) (h : Below (w.alloc (.cells #[.int .u8 kind, .string name, .int .u64 n, .int .u32 xf, .string xg, .string xb, .slice pa puts.length pc, .slice ta takes.length tc] 29)).heap.size (w.alloc (.cells #[.int .u8 kind, .string name, .int .u64 n, .int .u32 xf, .string xg, .string xb, .slice pa puts.length pc, .slice ta takes.length tc] 29)) v) => R1.pure h); have hsz := Lib.hid (show w.heap.size ≤ (w.alloc (.cells #[.int .u8 kind, .string name, .int .u64 n, .int .u32 xf, .string xg, .string xb, .slice pa puts.length pc, .slice ta takes.length tc] 29)).heap.size from hB1.size); go_enter Tryz.func9, Tryz.ntmps9; go_upto_region 1 with fail; generalize World.alloc w (.cells #[.int .u8 kind, .string name, .int .u64 n, .int .u32 xf, .string xg, .string xb, .slice pa puts.length pc, .slice ta takes.length tc] 29) = W1 at *; clear A1 R1; go_upto_if 33 with (first | (go_at_call 27; (with_reducible refine (hchh.out).mono ?_); rintro e w2 ⟨rfl, hb2⟩; clear a0 a1 a2 a3 a4 a5 a6 a7; have A := hAh.out _ hb2; have a0 := A.at 0 rfl; have a1 := A.at 1 rfl; have a2 := A.at 2 rfl; have a3 := A.at 3 rfl; have a4 := A.at 4 rfl; have a5 := A.at 5 rfl; have a6 := A.at 6 rfl; have a7 := A.at 7 rfl) | (go_at_call 28; (with_reducible refine (hrow2.out _).mono ?_); rintro e w3 ⟨rfl, rfl⟩) | (go_at_call 29; refine (dnum13_any _ kind 1 hkh.out.1 (Lib.hid (by have := hkh.out.2; omega)) (by unfold Wd; omega)).mono ?_; rintro e w4 ⟨rfl, hB4⟩; have hb := hb2.trans (hB4.mono hb2.size))); rw [be_one (show kind.toNat < 256 by have := hkh.out.2; omega)]; clear a0 a1 a2 a3 a4 a5 a6 a7 A; rw [hQ0h.out]; go_cut [9] from 34 to 38 (fun s9 wx => s9 = .string (bs Q1) ∧ Below W1.heap.size W1 wx)
  case first =>
    have A := hAh.out _ hb; have a0 := A.at 0 rfl; have a1 := A.at 1 rfl; have a2 := A.at 2 rfl; have a3 := A.at 3 rfl; have a4 := A.at 4 rfl; have a5 := A.at 5 rfl; have a6 := A.at 6 rfl; have a7 := A.at 7 rfl; have hq := hN1h.out; cases nb
    · obtain rfl : [] = N1 := hq; go_wp2_with fail; go_meet; exact ⟨by rw [← hQ1h.out, List.append_nil], hb⟩
    · obtain rfl : _ = N1 := hq; have hcl := cat_ok (a := Q0) (b := sT name) (by have h9 := hLn.out.1; have h8 := hQ1h.out; rw [← h8] at h9; exact Nat.le_trans h9 (by omega)); have hl := Lib.hid (hns.out rfl); go_wp2_with (go_at_call 30; (with_reducible refine (dtext13_any _ name hl.out).mono ?_); rintro e w5 ⟨rfl, hB5⟩; have hbz := hb.trans (hB5.mono hb.size)); go_meet; exact ⟨by rw [bs_app, ← hQ1h.out]; rfl, hbz⟩
  case rest =>
  obtain ⟨rfl, hbn⟩ := hcut; have hb := hbn; clear hbn; go_upto_if 39 with fail; go_cut [9] from 40 to 44 (fun s9 wx => s9 = .string (bs Q2) ∧ Below W1.heap.size W1 wx)
  case first =>
    have A := hAh.out _ hb; have a0 := A.at 0 rfl; have a1 := A.at 1 rfl; have a2 := A.at 2 rfl; have a3 := A.at 3 rfl; have a4 := A.at 4 rfl; have a5 := A.at 5 rfl; have a6 := A.at 6 rfl; have a7 := A.at 7 rfl; have hq := hN2h.out; cases mb
    · obtain rfl : [] = N2 := hq; go_wp2_with fail; go_meet; exact ⟨by rw [← hQ2h.out, List.append_nil], hb⟩
    · obtain rfl : _ = N2 := hq; have hcl := cat_ok (a := Q1) (b := be 8 n.toNat) (by have h9 := hLn.out.2.1; have h8 := hQ2h.out; rw [← h8] at h9; exact Nat.le_trans h9 (by omega)); skip; go_wp2_with (go_at_call 29; refine (dnum13_any _ n 8 hnh.out.1 (Lib.hid hnh.out.2) (by unfold Wd; omega)).mono ?_; rintro e w5 ⟨rfl, hB5⟩; have hbz := hb.trans (hB5.mono hb.size)); go_meet; exact ⟨by rw [bs_app, ← hQ2h.out]; rfl, hbz⟩
  case rest =>
  obtain ⟨rfl, hbn⟩ := hcut; have hb := hbn; clear hbn; go_upto_if 45 with fail; go_cut [9, 10, 11] from 46 to 55 (fun s9 s10 s11 wx => s9 = .string (bs Q3) ∧ Below W1.heap.size W1 wx)
  case first =>
    have A := hAh.out _ hb; have a0 := A.at 0 rfl; have a1 := A.at 1 rfl; have a2 := A.at 2 rfl; have a3 := A.at 3 rfl; have a4 := A.at 4 rfl; have a5 := A.at 5 rfl; have a6 := A.at 6 rfl; have a7 := A.at 7 rfl; have hq := hN3h.out; cases xB
    · obtain rfl : [] = N3 := hq; go_wp2_with fail; go_meet; exact ⟨by rw [← hQ3h.out, List.append_nil], hb⟩
    · obtain rfl : _ = N3 := hq; have hcl := cat_ok (a := Q2) (b := Xn.bytes (xf, xg, xb)) (by have h9 := hLn.out.2.2; have h8 := hQ3h.out; rw [← h8] at h9; exact Nat.le_trans h9 (by omega)); have hl := Lib.hid (hxs.out rfl); go_wp2_with (go_at_call 31; (with_reducible refine (dxput_any _ xf xg xb hxh.out.1 hxh.out.2 hl.out).mono ?_); rintro e w5 ⟨v5, rfl, hS5, hB5⟩; have hcv : (convert 50 9 v5).run Tryz.prog w5 = .ok (.string (bs (Xn.bytes (xf, xg, xb)))) w5 := conv_str w5 _ _ hS5; have hbz := hb.trans (hB5.mono hb.size)); go_meet; exact ⟨by rw [bs_app, ← hQ3h.out]; rfl, hbz⟩
  case rest =>
  obtain ⟨rfl, hbn⟩ := hcut; have hb := hbn; clear hbn; cases wb
  · have hf := Lib.hid (show bs Q3 = e0.text by rw [en_bs, hby.out, ← hQ3h.out, ← hQ2h.out, ← hQ1h.out, ← hQ0h.out]; congr 1; simp); go_wp2; go_ret2; exact ⟨by rw [hf.out]; rfl, hB1.trans (hb.mono hsz.out)⟩
  have A := hAh.out _ hb; have a0 := A.at 0 rfl; have a1 := A.at 1 rfl; have a2 := A.at 2 rfl; have a3 := A.at 3 rfl; have a4 := A.at 4 rfl; have a5 := A.at 5 rfl; have a6 := A.at 6 rfl; have a7 := A.at 7 rfl; obtain ⟨P4, hP4⟩ : ∃ l, Q3 ++ [UInt8.ofNat puts.length] = l := ⟨_, rfl⟩
  have hcl := cat_ok (a := Q3) (b := be 1 puts.length) (by have := hLn.out.2.2; simp only [List.length_append, be_len]; omega); have hP4l := Lib.hid (show P4.length ≤ 2000001 by rw [← hP4]; have := hLn.out.2.2; simp only [List.length_append, List.length_cons, List.length_nil]; omega); have hP4h := Lib.hid (show Q3 ++ [UInt8.ofNat puts.length] = P4 from hP4); go_upto_region 15 with (go_at_call 29; refine (dnum13_any _ (puts.length : Int) 1 (by omega) (Lib.hid (by have := hlen.out.1; omega)) (by unfold Wd; omega)).mono ?_; rintro e w6 ⟨rfl, hB6⟩; have hb6 := hb.trans (hB6.mono hb.size))
  try rw [Int.toNat_natCast]
  rw [be_one (show puts.length < 256 by have := hlen.out.1; omega), bs_app, hP4]; clear hP4 hb a0 a1 a2 a3 a4 a5 a6 a7 A; go_wp2_with fail; go_loopw [9, 12] (fun s9 s12 wr => ∃ (k : Nat) (Lk : List UInt8), k ≤ puts.length ∧ s12 = .int .i64 (k : Int) ∧ s9 = .string (bs Lk) ∧ Hid (Lk = P4 ++ (puts.take k).flatMap (fun p : PtT => p.p.bytes)) ∧ Below W1.heap.size W1 wr) (fun _ s12 _ => puts.length - (intOf s12).toNat)
  case atStart => exact ⟨0, P4, by omega, rfl, rfl, Lib.hid (by simp), hb6⟩
  case round =>
    clear hb6; obtain ⟨k, Lk, hk, rfl, rfl, hLk, hb⟩ := hrel
    have hLkl := Lib.hid (show Lk.length ≤ 4000000 by
      rw [hLk.out, List.length_append]; have h9 := flat_le (fun p : PtT => p.p.bytes) 12400 (puts.take k) (fun x hx => pt_len (hpoh.out x (List.mem_of_mem_take hx))); have h8 : (puts.take k).length ≤ 100 := by rw [List.length_take]; have := hlen.out.1; omega
      have h7 := hP4l.out; have h6 : (puts.take k).length * 12400 ≤ 100 * 12400 := Nat.mul_le_mul_right _ h8
      omega)
    have A := hAh.out _ hb; have a6 := A.at 6 rfl; by_cases hlt : k < puts.length
    · have h1 : (k : Int) < (puts.length : Int) := by omega
      have l1 : (puts.length : Int) ≤ 100 := by have := hlen.out.1; omega
      have hLr : Slc ptEnc 12 wr (.slice pa puts.length pc) puts := (hRh.out _ hb).p; obtain ⟨g0, off, rfl⟩ := hLr.addrB hlt; have hRk := (hRh.out _ hb).r puts[k] (List.getElem_mem hlt); have hokk := hpoh.out puts[k] (List.getElem_mem hlt); have hidk := hpid.out puts[k] (List.getElem_mem hlt); obtain ⟨q, id, key, dur, red, mid, uk, un, us, uka, ukc, ula, ulc, uks, ul, body, hx, q0, q1, q2, q3, q4, q5, q6, q7, q8, q9, q10, q11⟩ := pt_elem hLr hlt hRk; rw [hx] at hokk hidk hRk; have hRk : Rd P wr (VT.mk uk un us (.slice uka uks.length ukc) (.slice ula ul.length ulc) uks ul) := hRk; have hidk : 0 ≤ id ∧ id < 18446744073709551616 := hidk; have hidh := Lib.hid hidk; obtain ⟨px, hpx⟩ : ∃ p, (PtT.mk q id (PT.mk key dur red mid (VT.mk uk un us (.slice uka uks.length ukc) (.slice ula ul.length ulc) uks ul)) body).p = p := ⟨_, rfl⟩
      have hokp : Pt.okB (kind == 3) (PtT.mk q id (PT.mk key dur red mid (VT.mk uk un us (.slice uka uks.length ukc) (.slice ula ul.length ulc) uks ul)) body).p = true := hokk; rw [hpx] at hokp; unfold Pt.okB Pr.smallB at hokp; simp only [Bool.and_eq_true, decide_eq_true_eq] at hokp; have hq40 := qn_le hokp.1.1.1.1; have hpc : px.pr.chk = 0 := hokp.2.1; have hpbl : px.pr.bytes.length ≤ 8192 := hokp.2.2; have hbd : px.body.size ≤ 4096 := hokp.1.2; have hstep := Lib.hid (show Lk ++ px.bytes = P4 ++ (puts.take (k + 1)).flatMap (fun p : PtT => p.p.bytes) by rw [flat_succ (fun p : PtT => p.p.bytes) hlt P4, hx, ← hpx, hLk.out]); obtain ⟨tx, htx⟩ : ∃ s, px.pr.text = s := ⟨_, rfl⟩
      have hstr := Lib.hid (pt_str Lk px tx htx); have hput := fun (u : World) (R : Rd P u (VT.mk uk un us (.slice uka uks.length ukc) (.slice ula ul.length ulc) uks ul)) => d9put_any (PT.mk key dur red mid (VT.mk uk un us (.slice uka uks.length ukc) (.slice ula ul.length ulc) uks ul)) P u R
      have hpe : (PT.mk key dur red mid (VT.mk uk un us (.slice uka uks.length ukc) (.slice ula ul.length ulc) uks ul)).p = px.pr := by rw [← hpx]; rfl
      simp only [hpe, hpc, if_true, PT.arg_mk] at hput; rw [htx] at hput; have hputh := Lib.hid hput; have htz : tx.size ≤ 8192 := by rw [← htx]; exact hpbl
      subst hpx; have hq40 : q.size ≤ 40 := hq40; have hbd : body.size ≤ 4096 := hbd; have hqh := Lib.hid (show q.size ≤ 255 by omega); have s0 : (bs Lk).size ≤ 4000000 := by rw [bs_size]; exact hLkl.out
      have s1 : (bs (sT q)).size ≤ 300 := by rw [bs_size, sT_len]; omega
      have s2 : (bs (be 8 id.toNat)).size = 8 := by rw [bs_size, be_len]
      have s3 : (bs (be 4 tx.size)).size = 4 := by rw [bs_size, be_len]
      have s5 : (bs (be 2 body.size)).size = 2 := by rw [bs_size, be_len]
      have k1a : ¬ 9223372036854775807 < (bs Lk).size + (bs (sT q)).size := by omega
      have k2a : ¬ 9223372036854775807 < (bs Lk).size + (bs (sT q)).size + (bs (be 8 id.toNat)).size := by omega
      have k2b : ¬ 9223372036854775807 < (bs Lk).size + ((bs (sT q)).size + ((bs (be 8 id.toNat)).size)) := by omega
      have k2c : ¬ 9223372036854775807 < ((bs Lk) ++ (bs (sT q))).size + (bs (be 8 id.toNat)).size := by simp only [ByteArray.size_append]; omega
      have k3a : ¬ 9223372036854775807 < (bs Lk).size + (bs (sT q)).size + (bs (be 8 id.toNat)).size + (bs (be 4 tx.size)).size := by omega
      have k3b : ¬ 9223372036854775807 < (bs Lk).size + ((bs (sT q)).size + ((bs (be 8 id.toNat)).size + ((bs (be 4 tx.size)).size))) := by omega
      have k3c : ¬ 9223372036854775807 < (((bs Lk) ++ (bs (sT q))) ++ (bs (be 8 id.toNat))).size + (bs (be 4 tx.size)).size := by simp only [ByteArray.size_append]; omega
      have k4a : ¬ 9223372036854775807 < (bs Lk).size + (bs (sT q)).size + (bs (be 8 id.toNat)).size + (bs (be 4 tx.size)).size + tx.size := by omega
      have k4b : ¬ 9223372036854775807 < (bs Lk).size + ((bs (sT q)).size + ((bs (be 8 id.toNat)).size + ((bs (be 4 tx.size)).size + (tx.size)))) := by omega
      have k4c : ¬ 9223372036854775807 < ((((bs Lk) ++ (bs (sT q))) ++ (bs (be 8 id.toNat))) ++ (bs (be 4 tx.size))).size + tx.size := by simp only [ByteArray.size_append]; omega
      have k5a : ¬ 9223372036854775807 < (bs Lk).size + (bs (sT q)).size + (bs (be 8 id.toNat)).size + (bs (be 4 tx.size)).size + tx.size + (bs (be 2 body.size)).size := by omega
      have k5b : ¬ 9223372036854775807 < (bs Lk).size + ((bs (sT q)).size + ((bs (be 8 id.toNat)).size + ((bs (be 4 tx.size)).size + (tx.size + ((bs (be 2 body.size)).size))))) := by omega
      have k5c : ¬ 9223372036854775807 < (((((bs Lk) ++ (bs (sT q))) ++ (bs (be 8 id.toNat))) ++ (bs (be 4 tx.size))) ++ tx).size + (bs (be 2 body.size)).size := by simp only [ByteArray.size_append]; omega
      have k6a : ¬ 9223372036854775807 < (bs Lk).size + (bs (sT q)).size + (bs (be 8 id.toNat)).size + (bs (be 4 tx.size)).size + tx.size + (bs (be 2 body.size)).size + body.size := by omega
      have k6b : ¬ 9223372036854775807 < (bs Lk).size + ((bs (sT q)).size + ((bs (be 8 id.toNat)).size + ((bs (be 4 tx.size)).size + (tx.size + ((bs (be 2 body.size)).size + (body.size)))))) := by omega
      have k6c : ¬ 9223372036854775807 < ((((((bs Lk) ++ (bs (sT q))) ++ (bs (be 8 id.toNat))) ++ (bs (be 4 tx.size))) ++ tx) ++ (bs (be 2 body.size))).size + body.size := by simp only [ByteArray.size_append]; omega
      clear s0 s1 s2 s3 s5; have hzh := Lib.hid (show tx.size ≤ 8192 ∧ body.size ≤ 4096 from ⟨htz, hbd⟩); have tz : IntKind.u64.wrap (tx.size : Int) = (tx.size : Int) := wrap_u64 _ (by omega) (by omega); have bz : IntKind.u64.wrap (body.size : Int) = (body.size : Int) := wrap_u64 _ (by omega) (by omega); have hD := (Below.refl wr.heap.size wr).alloc (Nat.le_refl _) (.cells #[.string q, .int .u64 id, .string key, .bool dur, .bool red, .string mid, .int .u8 uk, .int .u64 un, .string us, .slice uka uks.length ukc, .slice ula ul.length ulc, .string body] 64); have B5 := Blk.new wr [.string q, .int .u64 id, .string key, .bool dur, .bool red, .string mid, .int .u8 uk, .int .u64 un, .string us, .slice uka uks.length ukc, .slice ula ul.length ulc, .string body] 64; have R5 := hRk.pure hD; clear hokk hidk hokp hput hpe hpc hpbl hbd hq40 htz htx hx hRk hLr; have b0 := B5.at 0 rfl; have b1 := B5.at 1 rfl; have b2 := B5.at 2 rfl; have b3 := B5.at 3 rfl; have b4 := B5.at 4 rfl; have b5 := B5.at 5 rfl; have b6 := B5.at 6 rfl; have b7 := B5.at 7 rfl; have b8 := B5.at 8 rfl; have b9 := B5.at 9 rfl; have b10 := B5.at 10 rfl; have b11 := B5.at 11 rfl; go_upto_region 20 with (go_at_call 32; (with_reducible refine (hputh.out _ R5).mono ?_); rintro e w8 ⟨rfl, hB8⟩; have hD8 := hD.trans (hB8.mono hD.size); have B8 := B5.pure hB8); have hb8 := Lib.hid (hb.trans (hD8.mono hb.size)); have hBB := Lib.hid (fun (v : World) (h : Below w8.heap.size w8 v) => B8.pure h); clear b0 q0 b1 q1 b2 q2 b3 q3 b4 q4 b5 q5 b6 q6 b7 q7 b8 q8 b9 q9 b10 q10 b11 q11 hb B5 B8 hD hD8; go_wp2_with fail; have hb := below_refl_dr w8; refine wp_region_held_drew (S := fun u => Below w8.heap.size w8 u) (by kernel_rfl) hb (fun hHeld => ?_); refine takeY 0 84 rfl rfl (v := ?_) ?_ hHeld ?_
      rotate_left 1
      · (intro u hSw; (try dsimp only at hSw); clear hSw; go_simp; (try with_reducible rfl))
      (try simp only [Act.put, lsT, lsZ, lsS]); refine takeY 1 85 rfl rfl (v := ?_) ?_ hHeld ?_
      rotate_left 1
      · (intro u hSw; (try dsimp only at hSw); clear hSw; go_simp; (try with_reducible rfl))
      (try simp only [Act.put, lsT, lsZ, lsS]); refine takeY 2 86 rfl rfl (v := ?_) ?_ hHeld ?_
      rotate_left 1
      · (intro u hSw; (try dsimp only at hSw); have q := (hBB.out u hSw).at 0 rfl; clear hSw; go_simp; (try with_reducible rfl))
      (try simp only [Act.put, lsT, lsZ, lsS]); refine takeY 5 89 rfl rfl (v := ?_) ?_ hHeld ?_
      rotate_left 1
      · (intro u hSw; (try dsimp only at hSw); clear hSw; go_simp; (try with_reducible rfl))
      (try simp only [Act.put, lsT, lsZ, lsS]); refine takeY 6 90 rfl rfl (v := ?_) ?_ hHeld ?_
      rotate_left 1
      · (intro u hSw; (try dsimp only at hSw); have q := (hBB.out u hSw).at 1 rfl; clear hSw; go_simp; (try with_reducible rfl))
      (try simp only [Act.put, lsT, lsZ, lsS]); refine takeY 9 93 rfl rfl (v := ?_) ?_ hHeld ?_
      rotate_left 1
      · (intro u hSw; (try dsimp only at hSw); clear hSw; go_simp; (try with_reducible rfl))
      (try simp only [Act.put, lsT, lsZ, lsS]); refine takeY 10 94 rfl rfl (v := ?_) ?_ hHeld ?_
      rotate_left 1
      · (intro u hSw; (try dsimp only at hSw); clear hSw; go_simp; (try with_reducible rfl))
      (try simp only [Act.put, lsT, lsZ, lsS]); refine takeY 11 95 rfl rfl (v := ?_) ?_ hHeld ?_
      rotate_left 1
      · (intro u hSw; (try dsimp only at hSw); clear hSw; go_simp; (try with_reducible rfl))
      (try simp only [Act.put, lsT, lsZ, lsS]); refine takeY 14 98 rfl rfl (v := ?_) ?_ hHeld ?_
      rotate_left 1
      · (intro u hSw; (try dsimp only at hSw); clear hSw; go_simp; (try with_reducible rfl))
      (try simp only [Act.put, lsT, lsZ, lsS]); refine takeY 16 100 rfl rfl (v := ?_) ?_ hHeld ?_
      rotate_left 1
      · (intro u hSw; (try dsimp only at hSw); clear hSw; go_simp; (try with_reducible rfl))
      (try simp only [Act.put, lsT, lsZ, lsS]); refine takeY 17 101 rfl rfl (v := ?_) ?_ hHeld ?_
      rotate_left 1
      · (intro u hSw; (try dsimp only at hSw); have q := (hBB.out u hSw).at 11 rfl; clear hSw; go_simp; (try with_reducible rfl))
      (try simp only [Act.put, lsT, lsZ, lsS]); refine takeY 18 102 rfl rfl (v := ?_) ?_ hHeld ?_
      rotate_left 1
      · (intro u hSw; (try dsimp only at hSw); clear hSw; go_simp; (try with_reducible rfl))
      (try simp only [Act.put, lsT, lsZ, lsS]); refine takeY 19 103 rfl rfl (v := ?_) ?_ hHeld ?_
      rotate_left 1
      · (intro u hSw; (try dsimp only at hSw); clear hSw; go_simp; (try with_reducible rfl))
      (try simp only [Act.put, lsT, lsZ, lsS]); refine takeY 22 106 rfl rfl (v := ?_) ?_ hHeld ?_
      rotate_left 1
      · (intro u hSw; (try dsimp only at hSw); clear hSw; go_simp; (try with_reducible rfl))
      (try simp only [Act.put, lsT, lsZ, lsS]); refine takeY 23 107 rfl rfl (v := ?_) ?_ hHeld ?_
      rotate_left 1
      · (intro u hSw; (try dsimp only at hSw); have q := (hBB.out u hSw).at 11 rfl; clear hSw; go_simp; (try with_reducible rfl))
      (try simp only [Act.put, lsT, lsZ, lsS]); refine wpAnyH_ready (rs := [3]) (by kernel_rfl) (by simp) ?_; refine AllReadyH.cons rfl (fun K hK => ?_) AllReadyH.nil; go_simp; go_at_call 30
      (with_reducible refine (dtext13_any _ q hqh.out).mono ?_)
      rintro e wn ⟨rfl, hBn⟩; have hb := hb.trans (hBn.mono hb.size); refine hK.out _ _ hb (fun hHeld => ?_); clear hK K; (try simp only [Act.put, lsT, lsZ, lsS]); refine takeY 4 88 rfl rfl (v := ?_) ?_ hHeld ?_
      rotate_left 1
      · (intro u hSw; (try dsimp only at hSw); clear hSw; go_simp; (try with_reducible rfl))
      (try simp only [Act.put, lsT, lsZ, lsS]); refine wpAnyH_ready (rs := [7]) (by kernel_rfl) (by simp) ?_; refine AllReadyH.cons rfl (fun K hK => ?_) AllReadyH.nil; go_simp; go_at_call 29; refine (dnum13_any _ id 8 hidh.out.1 (Lib.hid hidh.out.2) (by unfold Wd; omega)).mono ?_; rintro e wn ⟨rfl, hBn⟩; have hb := hb.trans (hBn.mono hb.size); refine hK.out _ _ hb (fun hHeld => ?_); clear hK K; (try simp only [Act.put, lsT, lsZ, lsS]); refine takeY 8 92 rfl rfl (v := ?_) ?_ hHeld ?_
      rotate_left 1
      · (intro u hSw; (try dsimp only at hSw); clear hSw; go_simp; (try with_reducible rfl))
      (try simp only [Act.put, lsT, lsZ, lsS]); refine wpAnyH_ready (rs := [12]) (by kernel_rfl) (by simp) ?_; refine AllReadyH.cons rfl (fun K hK => ?_) AllReadyH.nil; go_simp; go_at_call 29; refine (dnum13_any _ (tx.size : Int) 4 (by omega) (Lib.hid (by have := hzh.out.1; omega)) (by unfold Wd; omega)).mono ?_; rintro e wn ⟨rfl, hBn⟩; have hb := hb.trans (hBn.mono hb.size); refine hK.out _ _ hb (fun hHeld => ?_); clear hK K; (try simp only [Act.put, lsT, lsZ, lsS]); refine takeY 13 97 rfl rfl (v := ?_) ?_ hHeld ?_
      rotate_left 1
      · (intro u hSw; (try dsimp only at hSw); clear hSw; go_simp; (try with_reducible rfl))
      (try simp only [Act.put, lsT, lsZ, lsS]); refine takeY 15 99 rfl rfl (v := ?_) ?_ hHeld ?_
      rotate_left 1
      · (intro u hSw; (try dsimp only at hSw); clear hSw; go_simp; (try with_reducible rfl))
      (try simp only [Act.put, lsT, lsZ, lsS]); refine wpAnyH_ready (rs := [20]) (by kernel_rfl) (by simp) ?_; refine AllReadyH.cons rfl (fun K hK => ?_) AllReadyH.nil; go_simp; go_at_call 29; refine (dnum13_any _ (body.size : Int) 2 (by omega) (Lib.hid (by have := hzh.out.2; omega)) (by unfold Wd; omega)).mono ?_; rintro e wn ⟨rfl, hBn⟩; have hb := hb.trans (hBn.mono hb.size); refine hK.out _ _ hb (fun hHeld => ?_); clear hK K; (try simp only [Act.put, lsT, lsZ, lsS]); refine takeY 21 105 rfl rfl (v := ?_) ?_ hHeld ?_
      rotate_left 1
      · (intro u hSw; (try dsimp only at hSw); clear hSw; go_simp; (try with_reducible rfl))
      (try simp only [Act.put, lsT, lsZ, lsS]); refine takeY 24 108 rfl rfl (v := ?_) ?_ hHeld ?_
      rotate_left 1
      · (intro u hSw; (try dsimp only at hSw); clear hSw; go_simp; (try with_reducible rfl))
      (try simp only [Act.put, lsT, lsZ, lsS]); refine wpAnyH_ready (rs := [25]) (by kernel_rfl) (by simp) ?_; refine AllReadyH.cons rfl (fun K hK => ?_) AllReadyH.nil; go_simp; refine hK.out _ _ hb (fun hHeld => ?_); clear hK K; (try simp only [Act.put, lsT, lsZ, lsS]); refine wpAnyH_done (by kernel_rfl) ?_ _; go_wp2; go_roundw
      case rel => exact ⟨k + 1, _, by omega, by go_num, by rw [← hstr.out]; first | rfl | simp only [Int.toNat_natCast], hstep, hb8.out.trans (hb.mono hb8.out.size)⟩
      case measure => simp [intOf]; omega
    · obtain rfl : k = puts.length := by omega
      have a7 := A.at 7 rfl; obtain ⟨P5, hP5⟩ : ∃ l, Lk ++ [UInt8.ofNat takes.length] = l := ⟨_, rfl⟩
      have hcl9 := cat_ok (a := Lk) (b := be 1 takes.length) (by have := hLkl.out; simp only [List.length_append, be_len]; omega); have hP5l := Lib.hid (show P5.length ≤ 4000001 by rw [← hP5]; have := hLkl.out; simp only [List.length_append, List.length_cons, List.length_nil]; omega); have hP5h := Lib.hid hP5; go_upto_region 22 with (go_at_call 29; refine (dnum13_any _ (takes.length : Int) 1 (by omega) (Lib.hid (by have := hlen.out.2; omega)) (by unfold Wd; omega)).mono ?_; rintro e w6 ⟨rfl, hB6⟩; have hb6 := hb.trans (hB6.mono hb.size))
      try rw [Int.toNat_natCast]
      rw [be_one (show takes.length < 256 by have := hlen.out.2; omega), bs_app, hP5]; clear hP5 hb a6 a7 A; go_wp2_with fail; go_loopw [9, 16] (fun s9 s16 wr => ∃ (k : Nat) (Lj : List UInt8), k ≤ takes.length ∧ s16 = .int .i64 (k : Int) ∧ s9 = .string (bs Lj) ∧ Hid (Lj = P5 ++ (takes.take k).flatMap Rf.bytes) ∧ Below W1.heap.size W1 wr) (fun _ s16 _ => takes.length - (intOf s16).toNat)
      case atStart => exact ⟨0, P5, by omega, rfl, rfl, Lib.hid (by simp), hb6⟩
      case round =>
        clear hb6; obtain ⟨k, Lj, hk, rfl, rfl, hLj, hb⟩ := hrel
        have hLjl := Lib.hid (show Lj.length ≤ 4010000 by
          rw [hLj.out, List.length_append]; have h9 := flat_le Rf.bytes 60 (takes.take k) (fun x hx => rf_len (htoh.out x (List.mem_of_mem_take hx))); have h8 : (takes.take k).length ≤ 100 := by rw [List.length_take]; have := hlen.out.2; omega
          have h7 := hP5l.out; have h6 : (takes.take k).length * 60 ≤ 100 * 60 := Nat.mul_le_mul_right _ h8
          omega)
        have A := hAh.out _ hb; have a7 := A.at 7 rfl; by_cases hlt : k < takes.length
        · have h1 : (k : Int) < (takes.length : Int) := by omega
          have l1 : (takes.length : Int) ≤ 100 := by have := hlen.out.2; omega
          have hLr : Slc rfEnc 2 wr (.slice ta takes.length tc) takes := (hRh.out _ hb).s; obtain ⟨g0, off, rfl⟩ := hLr.addrB hlt; have hokk := htoh.out takes[k] (List.getElem_mem hlt); have hidk := htid.out takes[k] (List.getElem_mem hlt); obtain ⟨q, i, hx, e1, e2⟩ := rf_elem hLr hlt; rw [hx] at hokk hidk; have hidh := Lib.hid (show 0 ≤ i ∧ i < 18446744073709551616 from hidk); unfold Rf.okB at hokk; simp only [Bool.and_eq_true] at hokk; have hqh := Lib.hid (show q.size ≤ 255 by have := qn_le hokk.1; have h2 : q.size ≤ 40 := this; omega); have hq255 := hqh.out; have s0 : (bs Lj).size ≤ 4010000 := by rw [bs_size]; exact hLjl.out
          have s1 : (bs (sT q)).size ≤ 300 := by rw [bs_size, sT_len]; omega
          have s2 : (bs (be 8 i.toNat)).size = 8 := by rw [bs_size, be_len]
          have k1a : ¬ 9223372036854775807 < (bs Lj).size + (bs (sT q)).size := by omega
          have k2a : ¬ 9223372036854775807 < (bs Lj).size + (bs (sT q)).size + (bs (be 8 i.toNat)).size := by omega
          have k2b : ¬ 9223372036854775807 < (bs Lj).size + ((bs (sT q)).size + ((bs (be 8 i.toNat)).size)) := by omega
          have k2c : ¬ 9223372036854775807 < ((bs Lj) ++ (bs (sT q))).size + (bs (be 8 i.toNat)).size := by simp only [ByteArray.size_append]; omega
          clear s0 s1 s2 hq255; have hstep := Lib.hid (show Lj ++ Rf.bytes ⟨q, i⟩ = P5 ++ (takes.take (k + 1)).flatMap Rf.bytes by rw [flat_succ Rf.bytes hlt P5, hx, hLj.out]); have hstr := Lib.hid (rf_str Lj ⟨q, i⟩); have hAA := Lib.hid (fun (v : World) (h : Below wr.heap.size wr v) => A.pure h)
          have hcx := Lib.hid (fun (v : World) (h : Below wr.heap.size wr v) => show v.cell? ⟨g0, off + k * 2, none⟩ = some (.string q) ∧ v.cell? ⟨g0, off + k * 2 + 1, none⟩ = some (.int .u64 i) from by
            have hL9 : Slc rfEnc 2 v (.slice (some ⟨g0, off, none⟩) takes.length tc) takes := hLr.pure h; have hc := fun j u (hu : (rfEnc takes[k])[j]? = some u) => hL9.get k hlt j u hu
            rw [hx] at hc
            exact ⟨hc 0 _ rfl, hc 1 _ rfl⟩)
          have hb8 := Lib.hid hb; clear hokk hidk hx hLr e1 e2 hb; go_wp2_with fail; have hb := below_refl_dr wr; refine wp_region_held_drew (S := fun u => Below wr.heap.size wr u) (by kernel_rfl) hb (fun hHeld => ?_); refine takeY 0 123 rfl rfl (v := ?_) ?_ hHeld ?_
          rotate_left 1
          · (intro u hSw; (try dsimp only at hSw); clear hSw; go_simp; (try with_reducible rfl))
          (try simp only [Act.put, lsT, lsZ, lsS]); refine takeY 1 124 rfl rfl (v := ?_) ?_ hHeld ?_
          rotate_left 1
          · (intro u hSw; (try dsimp only at hSw); clear hSw; go_simp; (try with_reducible rfl))
          (try simp only [Act.put, lsT, lsZ, lsS]); refine takeY 2 125 rfl rfl (v := ?_) ?_ hHeld ?_
          rotate_left 1
          · (intro u hSw; (try dsimp only at hSw); have q9 := (hAA.out u hSw).at 7 rfl; clear hSw; go_simp; (try with_reducible rfl))
          (try simp only [Act.put, lsT, lsZ, lsS]); refine takeY 3 126 rfl rfl (v := ?_) ?_ hHeld ?_
          rotate_left 1
          · (intro u hSw; (try dsimp only at hSw); clear hSw; go_simp; (try with_reducible rfl))
          (try simp only [Act.put, lsT, lsZ, lsS]); refine takeY 4 127 rfl rfl (v := ?_) ?_ hHeld ?_
          rotate_left 1
          · (intro u hSw; (try dsimp only at hSw); clear hSw; go_simp; (try with_reducible rfl))
          (try simp only [Act.put, lsT, lsZ, lsS]); refine takeY 5 128 rfl rfl (v := ?_) ?_ hHeld ?_
          rotate_left 1
          · (intro u hSw; (try dsimp only at hSw); clear hSw; go_simp; (try with_reducible rfl))
          (try simp only [Act.put, lsT, lsZ, lsS]); refine takeY 6 129 rfl rfl (v := ?_) ?_ hHeld ?_
          rotate_left 1
          · (intro u hSw; (try dsimp only at hSw); obtain ⟨x0, x1⟩ := hcx.out u hSw; clear hSw; go_simp; (try with_reducible rfl))
          (try simp only [Act.put, lsT, lsZ, lsS]); refine takeY 9 132 rfl rfl (v := ?_) ?_ hHeld ?_
          rotate_left 1
          · (intro u hSw; (try dsimp only at hSw); clear hSw; go_simp; (try with_reducible rfl))
          (try simp only [Act.put, lsT, lsZ, lsS]); refine takeY 10 133 rfl rfl (v := ?_) ?_ hHeld ?_
          rotate_left 1
          · (intro u hSw; (try dsimp only at hSw); have q9 := (hAA.out u hSw).at 7 rfl; clear hSw; go_simp; (try with_reducible rfl))
          (try simp only [Act.put, lsT, lsZ, lsS]); refine takeY 11 134 rfl rfl (v := ?_) ?_ hHeld ?_
          rotate_left 1
          · (intro u hSw; (try dsimp only at hSw); clear hSw; go_simp; (try with_reducible rfl))
          (try simp only [Act.put, lsT, lsZ, lsS]); refine takeY 12 135 rfl rfl (v := ?_) ?_ hHeld ?_
          rotate_left 1
          · (intro u hSw; (try dsimp only at hSw); clear hSw; go_simp; (try with_reducible rfl))
          (try simp only [Act.put, lsT, lsZ, lsS]); refine takeY 13 136 rfl rfl (v := ?_) ?_ hHeld ?_
          rotate_left 1
          · (intro u hSw; (try dsimp only at hSw); clear hSw; go_simp; (try with_reducible rfl))
          (try simp only [Act.put, lsT, lsZ, lsS]); refine takeY 14 137 rfl rfl (v := ?_) ?_ hHeld ?_
          rotate_left 1
          · (intro u hSw; (try dsimp only at hSw); obtain ⟨x0, x1⟩ := hcx.out u hSw; clear hSw; go_simp; (try with_reducible rfl))
          (try simp only [Act.put, lsT, lsZ, lsS]); refine wpAnyH_ready (rs := [7]) (by kernel_rfl) (by simp) ?_; refine AllReadyH.cons rfl (fun K hK => ?_) AllReadyH.nil; go_simp; go_at_call 30
          (with_reducible refine (dtext13_any _ q hqh.out).mono ?_)
          rintro e wn ⟨rfl, hBn⟩; have hb := hb.trans (hBn.mono hb.size); refine hK.out _ _ hb (fun hHeld => ?_); clear hK K; (try simp only [Act.put, lsT, lsZ, lsS]); refine takeY 8 131 rfl rfl (v := ?_) ?_ hHeld ?_
          rotate_left 1
          · (intro u hSw; (try dsimp only at hSw); clear hSw; go_simp; (try with_reducible rfl))
          (try simp only [Act.put, lsT, lsZ, lsS]); refine wpAnyH_ready (rs := [15]) (by kernel_rfl) (by simp) ?_; refine AllReadyH.cons rfl (fun K hK => ?_) AllReadyH.nil; go_simp; go_at_call 29; refine (dnum13_any _ i 8 hidh.out.1 (Lib.hid hidh.out.2) (by unfold Wd; omega)).mono ?_; rintro e wn ⟨rfl, hBn⟩; have hb := hb.trans (hBn.mono hb.size); refine hK.out _ _ hb (fun hHeld => ?_); clear hK K; (try simp only [Act.put, lsT, lsZ, lsS]); refine takeY 16 139 rfl rfl (v := ?_) ?_ hHeld ?_
          rotate_left 1
          · (intro u hSw; (try dsimp only at hSw); clear hSw; go_simp; (try with_reducible rfl))
          (try simp only [Act.put, lsT, lsZ, lsS]); refine wpAnyH_ready (rs := [17]) (by kernel_rfl) (by simp) ?_; refine AllReadyH.cons rfl (fun K hK => ?_) AllReadyH.nil; go_simp; refine hK.out _ _ hb (fun hHeld => ?_); clear hK K; (try simp only [Act.put, lsT, lsZ, lsS]); refine wpAnyH_done (by kernel_rfl) ?_ _; go_wp2; go_roundw
          case rel => exact ⟨k + 1, _, by omega, by go_num, by rw [← hstr.out], hstep, hb8.out.trans (hb.mono hb8.out.size)⟩
          case measure => simp [intOf]; omega
        · obtain rfl : k = takes.length := by omega
          have hf := Lib.hid (show bs Lj = e0.text by
            rw [en_bs, hby.out, hLj.out, ← hP5h.out, hLk.out, ← hP4h.out, ← hQ3h.out, ← hQ2h.out, ← hQ1h.out, ← hQ0h.out, List.take_length, List.take_length]; congr 1
            simp [List.flatMap_map])
          go_wp2; go_ret2; exact ⟨by rw [hf.out]; rfl, hB1.trans (hb.mono hsz.out)⟩
end Go.Proofs.YtflglpbjapgciaaGreatDoor
