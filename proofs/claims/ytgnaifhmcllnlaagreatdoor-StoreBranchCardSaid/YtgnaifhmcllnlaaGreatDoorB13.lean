/- Chapter 14's law: entries that are too great. Conditions: none. Written by gen_stVa.py. (Texts joined.) -/
import Derived.Test.YtgnaifhmcllnlaaGreatDoorB12
set_option maxRecDepth 100000
set_option maxHeartbeats 25600000
set_option linter.unusedSimpArgs false
set_option linter.unusedVariables false
namespace Go.Proofs.YtgnaifhmcllnlaaGreatDoor
open Go.RowKit Tryz
theorem adl {B : Nat} {w w' : World} (h : Below B w w') : Below B w w'.drew := ⟨h.os, h.tape, h.output, h.size, h.block⟩
theorem ar4 (w : World) (t : StT) (P : Nat → Prop) (hR : StRd P w t) (hS : SmSt t) : Calls prog 10 #[t.arg] w fun e w' => ∃ t' : StT, e = .returned t'.arg ∧ t'.s = t.s ∧ StOw w.heap.size w' t' ∧ Below w.heap.size w w' := by
 have hwf := qq hR.wf
 obtain ⟨nx, qa, qc, ba, bc, ha, hc, qs, zk, hs, rfl, -, -, -⟩ := hR.open
 rw [StT.arg_mk]
 have hB3 : Below w.heap.size w (((w.alloc (.cells #[.int .u64 nx, .slice qa qs.length qc, .slice ba zk.length bc, .slice ha hs.length hc] 27)).alloc (.cells #[.int .u64 0, .slice none 0 0, .slice none 0 0, .slice none 0 0] 27)).alloc (.cells #[.int .u64 nx, .slice none 0 0, .slice none 0 0, .slice none 0 0] 27)) := (((qz _ _).alloc (qj _) _).alloc (by simp) _).alloc (by simp; omega) _
 have A3 : Blk (((w.alloc (.cells #[.int .u64 nx, .slice qa qs.length qc, .slice ba zk.length bc, .slice ha hs.length hc] 27)).alloc (.cells #[.int .u64 0, .slice none 0 0, .slice none 0 0, .slice none 0 0] 27)).alloc (.cells #[.int .u64 nx, .slice none 0 0, .slice none 0 0, .slice none 0 0] 27)) w.heap.size [.int .u64 nx, .slice qa qs.length qc, .slice ba zk.length bc, .slice ha hs.length hc] := ((Blk.new w [.int .u64 nx, .slice qa qs.length qc, .slice ba zk.length bc, .slice ha hs.length hc] 27).alloc _).alloc _
 have R3 : Blk (((w.alloc (.cells #[.int .u64 nx, .slice qa qs.length qc, .slice ba zk.length bc, .slice ha hs.length hc] 27)).alloc (.cells #[.int .u64 0, .slice none 0 0, .slice none 0 0, .slice none 0 0] 27)).alloc (.cells #[.int .u64 nx, .slice none 0 0, .slice none 0 0, .slice none 0 0] 27)) (w.heap.size + 1) [.int .u64 0, .slice none 0 0, .slice none 0 0, .slice none 0 0] := (Blk.newE (w.alloc (.cells #[.int .u64 nx, .slice qa qs.length qc, .slice ba zk.length bc, .slice ha hs.length hc] 27)) [.int .u64 0, .slice none 0 0, .slice none 0 0, .slice none 0 0] 27 (w.heap.size + 1) (by simp)).alloc _
 have O3 : Blk (((w.alloc (.cells #[.int .u64 nx, .slice qa qs.length qc, .slice ba zk.length bc, .slice ha hs.length hc] 27)).alloc (.cells #[.int .u64 0, .slice none 0 0, .slice none 0 0, .slice none 0 0] 27)).alloc (.cells #[.int .u64 nx, .slice none 0 0, .slice none 0 0, .slice none 0 0] 27)) (w.heap.size + 1 + 1) [.int .u64 nx, .slice none 0 0, .slice none 0 0, .slice none 0 0] := Blk.newE ((w.alloc (.cells #[.int .u64 nx, .slice qa qs.length qc, .slice ba zk.length bc, .slice ha hs.length hc] 27)).alloc (.cells #[.int .u64 0, .slice none 0 0, .slice none 0 0, .slice none 0 0] 27)) [.int .u64 nx, .slice none 0 0, .slice none 0 0, .slice none 0 0] 27 (w.heap.size + 1 + 1) (by simp)
 have hz3 : (((w.alloc (.cells #[.int .u64 nx, .slice qa qs.length qc, .slice ba zk.length bc, .slice ha hs.length hc] 27)).alloc (.cells #[.int .u64 0, .slice none 0 0, .slice none 0 0, .slice none 0 0] 27)).alloc (.cells #[.int .u64 nx, .slice none 0 0, .slice none 0 0, .slice none 0 0] 27)).heap.size = w.heap.size + 3 := by simp
 have hRh := qq hR; have hSh := qq hS
 have hqi : (qs.length : Int) ≤ 12 := by have : qs.length ≤ 12 := hS.q; omega
 have hbi : (zk.length : Int) ≤ 12 := by have : zk.length ≤ 12 := hS.b; omega
 have hhi : hs.length ≤ 40 := hS.h
 clear hR hS
 have zs : (prog.info? 27).map (fun i => (i.zero, i.size)) = some (some (.agg #[.int .u64 0, .slice none 0 0, .slice none 0 0, .slice none 0 0]), 4) := by kernel_rfl
 go_enter func10, ntmps10
 go_upto_region 2 with fail
 obtain ⟨u, hu⟩ := zj (((w.alloc (.cells #[.int .u64 nx, .slice qa qs.length qc, .slice ba zk.length bc, .slice ha hs.length hc] 27)).alloc (.cells #[.int .u64 0, .slice none 0 0, .slice none 0 0, .slice none 0 0] 27)).alloc (.cells #[.int .u64 nx, .slice none 0 0, .slice none 0 0, .slice none 0 0] 27))
 rw [← hu] at hB3 A3 R3 O3 hz3 ⊢
 clear hu zs
 go_wp2
 go_loopw [4, 5, 6, 7] (fun s4 s5 s6 s7 wr => ∃ (k : Nat) (v : Value) (D : List QuT), k ≤ qs.length ∧ s4 = .int .i64 k ∧ Hid (D.map QuT.q = (qs.take k).map QuT.q) ∧ Blk wr (w.heap.size + 1 + 1) [.int .u64 nx, v, .slice none 0 0, .slice none 0 0] ∧ CpQ (w.heap.size + 3) wr v D ∧ Upd (fun i => i = (w.heap.size + 1 + 1)) u wr) (fun s4 s5 s6 s7 _ => qs.length - (intOf s4).toNat)
 case atStart => exact ⟨0, _, [], Nat.zero_le _, rfl, qq rfl, O3, Cp.nil _ _, Upd.refl _ _⟩
 case round =>
  obtain ⟨k, v, D, hk, rfl, hD, O, C, hU⟩ := hrel; have hsz : w.heap.size + 3 ≤ wr.heap.size := by have := hU.size; omega
  have A : Blk wr w.heap.size [.int .u64 nx, .slice qa qs.length qc, .slice ba zk.length bc, .slice ha hs.length hc] := A3.upd hU (fun e => by have e : w.heap.size = (w.heap.size + 1 + 1) := e; omega); have hBw : Below w.heap.size w wr := hB3.trans (hU.below (by omega) (fun i e => by have e : i = (w.heap.size + 1 + 1) := e; omega)); obtain ⟨va, vn, vc, rfl⟩ := C.o.shape3; obtain rfl : vn = D.length := by obtain ⟨_, _, e, _⟩ := (C.o.slc aaf).len; injection e
  have b1 := A.at 1 rfl; by_cases hkt : k < qs.length
  ·have hkti : (k : Int) < (qs.length : Int) := by omega
   have hk0 : (0 : Int) ≤ (k : Int) := by omega
   have hRw := hRh.out.pure hBw; have hS : Slc aar 3 wr (.slice qa qs.length qc) qs := hRw.q; obtain ⟨g, off, rfl⟩ := hS.addrB hkt; obtain ⟨name, lim, ma, mc, zw, hx, -, c0, c1, c2⟩ := aep hS hkt (hRw.m _ (qy hkt)); have hM := hRw.m _ (qy hkt); have hsm := hSh.out.qs _ (qy hkt); rw [hx] at hM hsm; have hmi : (zw.length : Int) ≤ 40 := by have : zw.length ≤ 40 := hsm.l; omega
   have hMh := qq hM; have hxh := qq hx; have hsmh := qq hsm; have hDl := qq (show D.length = k by have := congrArg List.length hD.out; rw [jf, jf, List.length_take] at this; omega); have q0 : Slc aar 3 wr (.slice (some ⟨g, off, none⟩) qs.length qc) qs := hS; have qcell := qq (fun (y : World) (h : Below wr.heap.size wr y) => aby (q0.pure h) hkt hx); clear hM hsm hx hS hRw c0 c1 c2 q0; go_upto_region 5 with fail; clear b1; have hb := adl (qz wr.heap.size wr); refine aal (fun v => Below wr.heap.size wr v) hb (fun zg => ?_); refine tkH 0 zg ?_; refine tkF 1 zg ?_ (fun v hSw => (A.pure hSw).at 1 rfl); refine tkH 2 zg ?_; refine tkH 3 zg ?_; refine tkH 4 zg ?_; refine tkF 5 zg ?_ (fun v hSw => qcell.out _ hSw); refine tkH 6 zg ?_; refine tkF 7 zg ?_ (fun v hSw => (A.pure hSw).at 1 rfl); refine tkH 8 zg ?_; refine tkH 9 zg ?_; refine tkH 10 zg ?_; refine tkF 11 zg ?_ (fun v hSw => qcell.out _ hSw); refine tkH 12 zg ?_; refine aai 13 rfl (fun Kq hKq => ?_); go_simp; have Q1 : Blk (wr.alloc (.cells #[.string ⟨#[]⟩, .int .u64 0, .slice none 0 0] 51)).drew wr.heap.size [.string ⟨#[]⟩, .int .u64 0, .slice none 0 0] := (Blk.new wr [.string ⟨#[]⟩, .int .u64 0, .slice none 0 0] 51).drew; have hb := adl ((qz wr.heap.size wr).alloc (qj _) (.cells #[.string ⟨#[]⟩, .int .u64 0, .slice none 0 0] 51)); obtain ⟨w1, hw1⟩ := zj ((wr.alloc (.cells #[.string ⟨#[]⟩, .int .u64 0, .slice none 0 0] 51)).drew); have hz1 : w1.heap.size = wr.heap.size + 1 := by rw [hw1]; simp
   rw [← hw1] at Q1 hb ⊢; clear hw1; obtain ⟨q0, q1, q2⟩ := Q1.a3; obtain ⟨f0, f1, f2⟩ := Q1.f3; refine hKq.out _ _ hb (fun zg => ?_); clear hKq Kq; (try simp only [Act.put, lsT, lsZ, lsS]); refine aai 14 rfl (fun Kq hKq => ?_); go_simp; have Q2 : Blk (((w1.setCell ⟨wr.heap.size, 0, none⟩ (.string name)).setCell ⟨wr.heap.size, 1, none⟩ (.int .u64 lim)).setCell ⟨wr.heap.size, 2, none⟩ (.slice none 0 0)) wr.heap.size [.string name, .int .u64 lim, .slice none 0 0] := ((Q1.set 0 (.string name)).set 1 (.int .u64 lim)).set 2 (.slice none 0 0); have hb : Below wr.heap.size wr (((w1.setCell ⟨wr.heap.size, 0, none⟩ (.string name)).setCell ⟨wr.heap.size, 1, none⟩ (.int .u64 lim)).setCell ⟨wr.heap.size, 2, none⟩ (.slice none 0 0)) := ((hb.setCell (qj _) _).setCell (qj _) _).setCell (qj _) _; have hz2 : (((w1.setCell ⟨wr.heap.size, 0, none⟩ (.string name)).setCell ⟨wr.heap.size, 1, none⟩ (.int .u64 lim)).setCell ⟨wr.heap.size, 2, none⟩ (.slice none 0 0)).heap.size = wr.heap.size + 1 := by simp [hz1]
   obtain ⟨w2, hw2⟩ := zj (((w1.setCell ⟨wr.heap.size, 0, none⟩ (.string name)).setCell ⟨wr.heap.size, 1, none⟩ (.int .u64 lim)).setCell ⟨wr.heap.size, 2, none⟩ (.slice none 0 0)); rw [← hw2] at Q2 hb hz2 ⊢; clear hw2; refine hKq.out _ _ hb (fun zg => ?_); clear hKq Kq; (try simp only [Act.put, lsT, lsZ, lsS]); refine ah9 ?_; have hBq := hb; clear hb zg Q1 q0 q1 q2 f0 f1 f2 hz1; obtain ⟨wo, rfl⟩ := zj wr; have hBwo := hBw; have hUo := hU; clear hBw hU; go_wp2; go_loopw [6, 7] (fun s6 s7 wr => ∃ (j : Nat) (mv : Value) (E : List MsT), j ≤ zw.length ∧ s6 = .int .i64 j ∧ Hid (E.map MsT.m = (zw.take j).map MsT.m) ∧ Blk wr wo.heap.size [.string name, .int .u64 lim, mv] ∧ OwL 60 11 abl (fun x => x.pr.app) (wo.heap.size + 1) wr mv E ∧ Upd (fun i => i = wo.heap.size) w2 wr) (fun s6 s7 _ => zw.length - (intOf s6).toNat)
   case atStart => exact ⟨0, _, [], Nat.zero_le _, rfl, qq rfl, Q2, ⟨Own.nil, fun x h => (by cases h)⟩, Upd.refl _ _⟩
   case round =>
    obtain ⟨j, mv, E, hj, rfl, hE, Q, M, hU⟩ := hrel; have hBi : Below wo.heap.size wo wr := hBq.trans (hU.below (by have := hBq.size; omega) (fun i e => by have e : i = wo.heap.size := e; omega)); have hzi : wo.heap.size + 1 ≤ wr.heap.size := by have := hU.size; omega
    have A1 := A.pure hBi; have b1 := A1.at 1 rfl; obtain ⟨d0, d1, d2⟩ := qcell.out _ hBi; obtain ⟨mva, mvn, mvc, rfl⟩ := M.o.shape3; obtain rfl : mvn = E.length := by obtain ⟨_, _, e, _⟩ := (M.o.slc aac).len; injection e
    have hMr := hMh.out.pure hBi; by_cases hjt : j < zw.length
    ·have hjti : (j : Int) < (zw.length : Int) := by omega
     obtain ⟨g2, off2, rfl⟩ := hMr.s.addrB hjt; have hRm := hMr.r _ (qy hjt); obtain ⟨id, key, dur, red, mid, uk, un, us, uka, ukc, ula, ulc, uks, ul, body, hy, e0, e1, e2, e3, e4, e5, e6, e7, e8, e9, e10⟩ := aga hMr.s hjt hRm; have hFt := (hsmh.out.m _ (qy hjt)).2.2.2; rw [hy] at hRm hFt; have hRm : Rd _ wr (VT.mk uk un us (.slice uka uks.length ukc) (.slice ula ul.length ulc) uks ul) := hRm; have hcp := fun (y : World) (h : Below wr.heap.size wr y) => ale (PT.mk key dur red mid (VT.mk uk un us (.slice uka uks.length ukc) (.slice ula ul.length ulc) uks ul)) _ y (hRm.pure h) hFt
     rw [PT.arg_mk] at hcp; have hcph := qq hcp; have hyh := qq hy; have hEl := qq (show E.length = j by have := congrArg List.length hE.out; rw [jf, jf, List.length_take] at this; omega); clear hcp hRm hFt hy hMr; go_upto_region 10 with fail; have hA1 := (qz wr.heap.size wr).alloc (qj _) (.cells #[.int .u64 id, .string key, .bool dur, .bool red, .string mid, .int .u8 uk, .int .u64 un, .string us, .slice uka uks.length ukc, .slice ula ul.length ulc, .string body] 60); have M1 := Blk.new wr [.int .u64 id, .string key, .bool dur, .bool red, .string mid, .int .u8 uk, .int .u64 un, .string us, .slice uka uks.length ukc, .slice ula ul.length ulc, .string body] 60; have hz3 : (wr.alloc (.cells #[.int .u64 id, .string key, .bool dur, .bool red, .string mid, .int .u8 uk, .int .u64 un, .string us, .slice uka uks.length ukc, .slice ula ul.length ulc, .string body] 60)).heap.size = wr.heap.size + 1 := by simp
     obtain ⟨w3, hw3⟩ := zj (wr.alloc (.cells #[.int .u64 id, .string key, .bool dur, .bool red, .string mid, .int .u8 uk, .int .u64 un, .string us, .slice uka uks.length ukc, .slice ula ul.length ulc, .string body] 60)); rw [← hw3] at hA1 M1 hz3 ⊢; clear hw3 e0 e1 e2 e3 e4 e5 e6 e7 e8 e9 e10 b1 d0 d1 d2; obtain ⟨m0, m1, m2, m3, m4, m5, m6, m7, m8, m9, m10⟩ := M1.a11; go_upto_region 11 with (go_at_call 25; (with_reducible refine (hcph.out _ hA1).mono ?_); rintro e w4 ⟨pt2, rfl, ht2, hR4, hB4⟩; obtain ⟨key2, dur2, red2, mid2, tv2⟩ := pt2; have hR4 : Rd (fun i => w3.heap.size ≤ i) _ tv2 := hR4; obtain ⟨uk2, un2, us2, uka2, ukc2, ula2, ulc2, uks2, ul2, rfl, -⟩ := hR4.open; rw [PT.arg_mk]; have ht2 := qq ht2; have M4 := M1.pure hB4; have n1 := M4.at 1 rfl; have n2 := M4.at 2 rfl; have n3 := M4.at 3 rfl; have n4 := M4.at 4 rfl; have n5 := M4.at 5 rfl; have n6 := M4.at 6 rfl; have n7 := M4.at 7 rfl; have n8 := M4.at 8 rfl; have n9 := M4.at 9 rfl; have f1 := M4.frozen 1; have f2 := M4.frozen 2; have f3 := M4.frozen 3; have f4 := M4.frozen 4; have f5 := M4.frozen 5; have f6 := M4.frozen 6; have f7 := M4.frozen 7; have f8 := M4.frozen 8; have f9 := M4.frozen 9); have hB4b := hA1.trans (hB4.mono hA1.size); obtain ⟨w5, hw5⟩ := zj (((((((((w4.setCell ⟨wr.heap.size, 1, none⟩ (.string key2)).setCell ⟨wr.heap.size, 2, none⟩ (.bool dur2)).setCell ⟨wr.heap.size, 3, none⟩ (.bool red2)).setCell ⟨wr.heap.size, 4, none⟩ (.string mid2)).setCell ⟨wr.heap.size, 5, none⟩ (.int .u8 uk2)).setCell ⟨wr.heap.size, 6, none⟩ (.int .u64 un2)).setCell ⟨wr.heap.size, 7, none⟩ (.string us2)).setCell ⟨wr.heap.size, 8, none⟩ (.slice uka2 uks2.length ukc2)).setCell ⟨wr.heap.size, 9, none⟩ (.slice ula2 ul2.length ulc2)); have M5 : Blk w5 wr.heap.size [.int .u64 id, .string key2, .bool dur2, .bool red2, .string mid2, .int .u8 uk2, .int .u64 un2, .string us2, .slice uka2 uks2.length ukc2, .slice ula2 ul2.length ulc2, .string body] := by rw [hw5]; exact (((((((((M4.set 1 (.string key2)).set 2 (.bool dur2)).set 3 (.bool red2)).set 4 (.string mid2)).set 5 (.int .u8 uk2)).set 6 (.int .u64 un2)).set 7 (.string us2)).set 8 (.slice uka2 uks2.length ukc2)).set 9 (.slice ula2 ul2.length ulc2))
     have hUc : Upd (fun i => i = wr.heap.size) w4 w5 := by rw [hw5]; exact ab6 wr.heap.size [.string key2, .bool dur2, .bool red2, .string mid2, .int .u8 uk2, .int .u64 un2, .string us2, .slice uka2 uks2.length ukc2, .slice ula2 ul2.length ulc2] 1 w4
     have hB5 : Below wr.heap.size wr w5 := by rw [hw5]; exact (((((((((hB4b.setCell (qj _) _).setCell (qj _) _).setCell (qj _) _).setCell (qj _) _).setCell (qj _) _).setCell (qj _) _).setCell (qj _) _).setCell (qj _) _).setCell (qj _) _)
     have hR5 : Rd (fun i => w3.heap.size ≤ i) w5 (VT.mk uk2 un2 us2 (.slice uka2 uks2.length ukc2) (.slice ula2 ul2.length ulc2) uks2 ul2) := hR4.upd hUc (fun i hi e => by have e : i = wr.heap.size := e; omega); have hz5 := hB4.size; have hz6 : w5.heap.size = w4.heap.size := by rw [hw5]; simp
     rw [← hw5]; clear hw5 M4 n1 n2 n3 n4 n5 n6 n7 n8 n9 f1 f2 f3 f4 f5 f6 f7 f8 f9 m0 m1 m2 m3 m4 m5 m6 m7 m8 m9 m10 M1 hR4 hUc; obtain ⟨m0, m1, m2, m3, m4, m5, m6, m7, m8, m9, m10⟩ := M5.a11; have Q5 := Q.pure hB5; have q2 := Q5.at 2 rfl; have qf := Q5.frozen 2; have hal := (qz w5.heap.size w5).alloc (qj _) (.cells #[.int .u64 id, .string key2, .bool dur2, .bool red2, .string mid2, .int .u8 uk2, .int .u64 un2, .string us2, .slice uka2 uks2.length ukc2, .slice ula2 ul2.length ulc2, .string body] 60); have N := Blk.new w5 [.int .u64 id, .string key2, .bool dur2, .bool red2, .string mid2, .int .u8 uk2, .int .u64 un2, .string us2, .slice uka2 uks2.length ukc2, .slice ula2 ul2.length ulc2, .string body] 60; have hz7 : (w5.alloc (.cells #[.int .u64 id, .string key2, .bool dur2, .bool red2, .string mid2, .int .u8 uk2, .int .u64 un2, .string us2, .slice uka2 uks2.length ukc2, .slice ula2 ul2.length ulc2, .string body] 60)).heap.size = w5.heap.size + 1 := by simp
     have O6 := (M.o.pure hB5).pure hal; have hEb : E.length ≤ 40 := by rw [hEl.out]; omega
     have hzB := hB5.size; have hbs : wo.heap.size + 1 ≤ (w5.alloc (.cells #[.int .u64 id, .string key2, .bool dur2, .bool red2, .string mid2, .int .u8 uk2, .int .u64 un2, .string us2, .slice uka2 uks2.length ukc2, .slice ula2 ul2.length ulc2, .string body] 60)).heap.size := by omega
     have hz6h := qq hz6; have hz7h := qq hz7; have hz3h := qq hz3; clear hz6 hz7 hz3; go_wp2_with (at_builtin; refine aaq (base := wo.heap.size + 1) rfl (.tmp 58) (.tmp 60) 49 60 rfl aml aac _ E rfl O6 w5.heap.size 1 (MsT.mk id (PT.mk key2 dur2 red2 mid2 (VT.mk uk2 un2 us2 (.slice uka2 uks2.length ukc2) (.slice ula2 ul2.length ulc2) uks2 ul2)) body) (ag5 _) rfl (fun j u hu => (N.cell j).trans hu) (by omega) (by unfold maxLen; omega) hbs ?_; intro g' cap' w7 hO7 hgr hfr; have hgU := Upd.grown (S := fun i => Value.ownBlock (.slice mva E.length mvc) = some i) hgr (fun k e => e); have Q7 := ((Q5.pure hal).upd hgU (fun e => by have := M.o.ge e; omega)); have r2 := Q7.at 2 rfl; have rf := Q7.frozen 2); have hz6 := hz6h.out; have hz7 := hz7h.out; have hz3 := hz3h.out; have M6 := (M.pure hB5).pure hal; have hR6 := (hR5.lt.pure hal).weaken (fun i _ hi => (⟨by have := hi.1; omega, fun e => by have := M.o.lt e; have := hi.1; omega⟩ : wo.heap.size + 1 ≤ i ∧ Value.ownBlock (.slice mva E.length mvc) ≠ some i)); have M7 := M6.app hO7 hgr hfr hR6; have M8 := qq (M7.upd (Upd.set (S := fun i => i = wo.heap.size) (p := ⟨wo.heap.size, 2, none⟩) rfl (.slice (some ⟨g', 0, none⟩) (E.length + 1) cap')) (fun i h1 _ e => by have e : i = wo.heap.size := e; omega)); have Q8 : Blk (w7.setCell ⟨wo.heap.size, 2, none⟩ (.slice (some ⟨g', 0, none⟩) (E.length + 1) cap')) wo.heap.size [.string name, .int .u64 lim, .slice (some ⟨g', 0, none⟩) (E.length + 1) cap'] := Q7.set 2 (.slice (some ⟨g', 0, none⟩) (E.length + 1) cap'); have hU8 := ((((hU.trans (Upd.of_below (S := fun i => i = wo.heap.size) hB5) (fun _ e _ => e)).trans (Upd.of_below (S := fun i => i = wo.heap.size) hal) (fun _ e _ => e)).trans (hgU.mono (T := fun i => i = wo.heap.size ∨ w2.heap.size ≤ i) (fun i e _ => .inr (by have := M.o.ge e; omega))) (fun i e hi => by rcases e with e | e; exact e; omega)).trans (Upd.set (S := fun i => i = wo.heap.size) (p := ⟨wo.heap.size, 2, none⟩) rfl (.slice (some ⟨g', 0, none⟩) (E.length + 1) cap')) (fun _ e _ => e))
     have hE8 := qq (show (E ++ [(MsT.mk id (PT.mk key2 dur2 red2 mid2 (VT.mk uk2 un2 us2 (.slice uka2 uks2.length ukc2) (.slice ula2 ul2.length ulc2) uks2 ul2)) body)]).map MsT.m = (zw.take (j + 1)).map MsT.m by
      rw [List.map_append, hE.out, jx hjt, List.map_append, List.map_singleton, List.map_singleton, hyh.out]; congr 2; show Ms.mk id (PT.p _) body = Ms.mk id (PT.p _) body
      rw [ht2.out])
     clear M6 M7 hgU Q7 r2 rf q2 qf m0 m1 m2 m3 m4 m5 m6 m7 m8 m9 m10 hR6 hR5 O6 N M5 Q5 hO7 hgr hfr ht2; go_roundw
     case rel => exact ⟨j + 1, _, _, by omega, by go_num, hE8, Q8, by rw [show E.length + 1 = (E ++ [(MsT.mk id (PT.mk key2 dur2 red2 mid2 (VT.mk uk2 un2 us2 (.slice uka2 uks2.length ukc2) (.slice ula2 ul2.length ulc2) uks2 ul2)) body)]).length by simp] at *; exact M8.out, hU8⟩
     case measure => simp [intOf]; omega
    ·obtain rfl : j = zw.length := by omega
     rw [js] at hE; have O1 := O.pure hBi; have C1 := C.pure hBi; have o1 := O1.at 1 rfl; have of1 := O1.frozen 1; obtain ⟨q0, q1, q2⟩ := Q.a3; have hal := (qz wr.heap.size wr).alloc (qj _) (.cells #[.string name, .int .u64 lim, .slice mva E.length mvc] 51); have N := Blk.new wr [.string name, .int .u64 lim, .slice mva E.length mvc] 51; have C6 := C1.o.pure hal; have hDb : D.length ≤ 12 := by rw [hDl.out]; omega
     have hzx := hBi.size; have hbs : w.heap.size + 3 ≤ (wr.alloc (.cells #[.string name, .int .u64 lim, .slice mva E.length mvc] 51)).heap.size := by have := hal.size; omega
     clear hMr; go_wp2_with (at_builtin; refine aaq (base := w.heap.size + 3) rfl (.tmp 64) (.tmp 66) 23 51 rfl afm aaf _ D rfl C6 wr.heap.size 1 (QuT.mk name lim (.slice mva E.length mvc) E) (aea _) rfl (fun j u hu => (N.cell j).trans hu) (by omega) (by unfold maxLen; omega) hbs ?_; intro g' cap' w7 hO7 hgr hfr; have hgU := Upd.grown (S := fun i => Value.ownBlock (.slice va D.length vc) = some i) hgr (fun k e => e); have O7 := ((O1.pure hal).upd hgU (fun e => by have := C1.o.ge e; omega)); have r1 := O7.at 1 rfl; have rf := O7.frozen 1); have hX := (M.base (show wo.heap.size ≤ wo.heap.size + 1 by omega)).pure hal; have C7 := C.add hsz (hBi.trans (hal.mono hBi.size)) (by decide) (x := (QuT.mk name lim (.slice mva E.length mvc) E)) hX hO7 hgr hfr; have C8 := qq (C7.upd (Upd.set (S := fun i => i = (w.heap.size + 1 + 1)) (p := ⟨(w.heap.size + 1 + 1), 1, none⟩) rfl (.slice (some ⟨g', 0, none⟩) (D.length + 1) cap')) (fun i e => .inl (by have e : i = (w.heap.size + 1 + 1) := e; omega))); have O8 : Blk (w7.setCell ⟨w.heap.size + 1 + 1, 1, none⟩ (.slice (some ⟨g', 0, none⟩) (D.length + 1) cap')) (w.heap.size + 1 + 1) [.int .u64 nx, .slice (some ⟨g', 0, none⟩) (D.length + 1) cap', .slice none 0 0, .slice none 0 0] := O7.set 1 (.slice (some ⟨g', 0, none⟩) (D.length + 1) cap'); have hU8 := (((hUo.trans (Upd.of_below (S := fun i => i = (w.heap.size + 1 + 1)) (hBi.trans (hal.mono hBi.size))) (fun _ e _ => e)).trans (hgU.mono (T := fun i => i = (w.heap.size + 1 + 1) ∨ u.heap.size ≤ i) (fun i e _ => .inr (by have := C1.o.ge e; omega))) (fun i e hi => by rcases e with e | e; exact e; omega)).trans (Upd.set (S := fun i => i = (w.heap.size + 1 + 1)) (p := ⟨(w.heap.size + 1 + 1), 1, none⟩) rfl (.slice (some ⟨g', 0, none⟩) (D.length + 1) cap')) (fun _ e _ => e))
     have hD8 := qq (show (D ++ [(QuT.mk name lim (.slice mva E.length mvc) E)]).map QuT.q = (qs.take (k + 1)).map QuT.q by
      rw [List.map_append, hD.out, jx hkt, List.map_append, List.map_singleton, List.map_singleton, hxh.out]; congr 2; show Qu.mk name lim _ = Qu.mk name lim _
      rw [hE.out])
     clear C7 hgU O7 r1 rf o1 of1 q0 q1 q2 hX C6 N O1 C1 hO7 hgr hfr Q M; go_roundw
     case rel => exact ⟨k + 1, _, _, by omega, by go_num, hD8, O8, C8.out, hU8⟩
     case measure => simp [intOf]; omega
  ·obtain rfl : k = qs.length := by omega
   rw [js] at hD; obtain ⟨wq, rfl⟩ := zj wr; have hUq := hU; have hBq := hBw; have Cq := qq C; have Oq := O; have Aq := A; clear hU hBw C O A; go_wp2; clear b1; go_loopw [8, 9] (fun s8 s9 wr => ∃ (k : Nat) (bv : Value) (E : List BrT), k ≤ zk.length ∧ s8 = .int .i64 k ∧ Hid (E.map BrT.b = (zk.take k).map BrT.b) ∧ Blk wr (w.heap.size + 1 + 1) [.int .u64 nx, (.slice va D.length vc), bv, .slice none 0 0] ∧ CpB wq.heap.size wr bv E ∧ Hid (∀ b ∈ E, Own wq.heap.size 68 2 abc wr b.tv b.zy) ∧ Upd (fun i => i = (w.heap.size + 1 + 1)) wq wr) (fun s8 s9 _ => zk.length - (intOf s8).toNat)
   case atStart => exact ⟨0, _, [], Nat.zero_le _, rfl, qq rfl, Oq, Cp.nil _ _, qq (fun b h => (by cases h)), Upd.refl _ _⟩
   case round =>
    obtain ⟨k, bv, E, hk, rfl, hE, O, C, hT, hU⟩ := hrel; have hzq : wq.heap.size ≤ wr.heap.size := hU.size; have A : Blk wr w.heap.size [.int .u64 nx, .slice qa qs.length qc, .slice ba zk.length bc, .slice ha hs.length hc] := Aq.upd hU (fun e => by have e : w.heap.size = (w.heap.size + 1 + 1) := e; omega); have hBw : Below w.heap.size w wr := hBq.trans (hU.below (by omega) (fun i e => by have e : i = (w.heap.size + 1 + 1) := e; omega)); obtain ⟨ba1, bn1, bc1, rfl⟩ := C.o.shape3; obtain rfl : bn1 = E.length := by obtain ⟨_, _, e, _⟩ := (C.o.slc aag).len; injection e
    have b2 := A.at 2 rfl; by_cases hkt : k < zk.length
    ·have hkti : (k : Int) < (zk.length : Int) := by omega
     have hk0 : (0 : Int) ≤ (k : Int) := by omega
     have hRw := hRh.out.pure hBw; have hS : Slc aa7 5 wr (.slice ba zk.length bc) zk := hRw.b; obtain ⟨g, off, rfl⟩ := hS.addrB hkt; obtain ⟨yf, yg, yb, pa, pc, ta, tc, zu, zy, hx, -, -, c0, c1, c2, c3, c4⟩ := adq hS hkt (hRw.e _ (qy hkt)); have hEn := hRw.e _ (qy hkt); have hsm := hSh.out.bs _ (qy hkt); rw [hx] at hEn hsm; have hpl : zu.length ≤ 20 := hsm.p; have htl : zy.length ≤ 20 := hsm.t; have hps : Slc aat 12 wr (.slice pa zu.length pc) zu := hEn.p; have hts := qq (show Slc abc 2 wr (.slice ta zy.length tc) zy from hEn.s); have hpr : ∀ x ∈ zu, Rd _ wr x.pr.app := hEn.r
     have hspt : ∀ x ∈ zu, SmPt x := hsm.e.zu
     have hcp := qq (fun (y : World) (h : Below wr.heap.size wr y) => aex y pa pc zu _ (hps.pure h) (by omega) (fun x hx => (hpr x hx).pure h) hspt); have hxh := qq hx; have hEl := qq (show E.length = k by have := congrArg List.length hE.out; rw [jf, jf, List.length_take] at this; omega); have bcell := qq (fun (y : World) (h : Below wr.heap.size wr y) => ach (hS.pure h) hkt hx); clear hEn hsm hps hpr hspt hx hS hRw c0 c1 c2 c3 c4; go_upto_region 16 with fail; clear b2; have hb := adl (qz wr.heap.size wr); refine acb (fun v => Below wr.heap.size wr v) 15 hb (fun zg => ?_); refine tkU 0 zg ?_; refine tkG 1 zg ?_ (fun v hSw => (A.pure hSw).at 2 rfl); refine tkU 2 zg ?_; refine tkU 3 zg ?_; refine tkU 4 zg ?_; refine tkG 5 zg ?_ (fun v hSw => bcell.out _ hSw); refine tkU 6 zg ?_; refine tkG 7 zg ?_ (fun v hSw => (A.pure hSw).at 2 rfl); refine tkU 8 zg ?_; refine tkU 9 zg ?_; refine tkU 10 zg ?_; refine tkG 11 zg ?_ (fun v hSw => bcell.out _ hSw); refine bd1 12 14 rfl rfl (fun Kq hKq => ?_) (fun Kq hKq => ?_)
     focus
      go_simp
      (go_at_call 26; (with_reducible refine (hcp.out _ hb).mono ?_); rintro e w4 ⟨pv2, L2, rfl, hL2, hLl, hC4⟩)
      have hL2 := qq hL2; have hLl := qq hLl; obtain ⟨pa2, pn2, pc2, rfl⟩ := hC4.o.shape3; have hb : Below wr.heap.size wr w4 := hb.trans (hC4.b.mono hb.size); refine hKq.out _ _ hb (fun zg => ?_); clear hKq Kq; (try simp only [Act.put, lsT, lsZ, lsS]); refine tkU 13 zg ?_; refine aiu 14 rfl (fun Kq hKq => ?_); go_simp; have hA5 := (qz w4.heap.size w4).alloc (qj _) (.cells #[.int .u32 0, .string ⟨#[]⟩, .string ⟨#[]⟩, .slice none 0 0, .slice none 0 0] 62); have Bx := Blk.new w4 [.int .u32 0, .string ⟨#[]⟩, .string ⟨#[]⟩, .slice none 0 0, .slice none 0 0] 62; have hb := hb.alloc hb.size (.cells #[.int .u32 0, .string ⟨#[]⟩, .string ⟨#[]⟩, .slice none 0 0, .slice none 0 0] 62); have hO5 : Own wr.heap.size 64 12 aat (w4.alloc (.cells #[.int .u32 0, .string ⟨#[]⟩, .string ⟨#[]⟩, .slice none 0 0, .slice none 0 0] 62)) (.slice pa2 pn2 pc2) L2 := (hC4.o.pure hA5); have hR5 : ∀ x ∈ L2, Rd (fun i => wr.heap.size ≤ i ∧ i ≠ w4.heap.size ∧ Value.ownBlock (.slice pa2 pn2 pc2) ≠ some i) (w4.alloc (.cells #[.int .u32 0, .string ⟨#[]⟩, .string ⟨#[]⟩, .slice none 0 0, .slice none 0 0] 62)) x.pr.app := fun x hx => ((hC4.rd x hx).lt.pure hA5).weaken (fun i _ hi => ⟨hi.1.1, by have := hi.2; omega, hi.1.2⟩)
      have hpb : Value.ownBlock (.slice pa2 pn2 pc2) ≠ some w4.heap.size := fun e => by have := hC4.o.lt e; omega
      have hbge := hC4.b.size; have hbge : wr.heap.size ≤ w4.heap.size := hbge; obtain ⟨bb, hbb⟩ := zj w4.heap.size; rw [← hbb] at Bx hR5 hpb hbge ⊢; clear hbb; obtain ⟨w5, hw5⟩ := zj (w4.alloc (.cells #[.int .u32 0, .string ⟨#[]⟩, .string ⟨#[]⟩, .slice none 0 0, .slice none 0 0] 62)); rw [← hw5] at Bx hb hO5 hR5 ⊢; clear hw5 hC4 hA5; refine hKq.out _ _ hb (fun zg => ?_); clear hKq Kq; (try simp only [Act.put, lsT, lsZ, lsS])
     rotate_left 1
     focus
      go_simp; have hA5 := adl ((qz wr.heap.size wr).alloc (qj _) (.cells #[.int .u32 0, .string ⟨#[]⟩, .string ⟨#[]⟩, .slice none 0 0, .slice none 0 0] 62)); have Bx := (Blk.new wr [.int .u32 0, .string ⟨#[]⟩, .string ⟨#[]⟩, .slice none 0 0, .slice none 0 0] 62).drew; have hzb : wr.heap.size < ((wr.alloc (.cells #[.int .u32 0, .string ⟨#[]⟩, .string ⟨#[]⟩, .slice none 0 0, .slice none 0 0] 62)).drew).heap.size := by show _ < (wr.alloc _).heap.size; simp
      have hb := hA5; refine hKq.out _ _ hb (fun zg => ?_); clear hKq Kq; (try simp only [Act.put, lsT, lsZ, lsS]); obtain ⟨w3, hw3⟩ := zj ((wr.alloc (.cells #[.int .u32 0, .string ⟨#[]⟩, .string ⟨#[]⟩, .slice none 0 0, .slice none 0 0] 62)).drew); rw [← hw3] at Bx hb hA5 hzb zg ⊢; clear hw3; obtain ⟨bb, hbb⟩ := zj wr.heap.size; have hp : Value.pointer (some ⟨wr.heap.size, 0, none⟩) = .pointer (some ⟨bb, 0, none⟩) := by rw [hbb]
      rw [hp]; have Bx : Blk w3 bb [.int .u32 0, .string ⟨#[]⟩, .string ⟨#[]⟩, .slice none 0 0, .slice none 0 0] := by rw [hbb]; exact Bx
      have hbl : bb < w3.heap.size := by omega
      have hbge : wr.heap.size ≤ bb := by omega
      clear hp hbb; refine aiu 12 rfl (fun Kq hKq => ?_); go_simp
      (go_at_call 26; (with_reducible refine (hcp.out _ hb).mono ?_); rintro e w4 ⟨pv2, L2, rfl, hL2, hLl, hC4⟩)
      have hL2 := qq hL2; have hLl := qq hLl; obtain ⟨pa2, pn2, pc2, rfl⟩ := hC4.o.shape3; have Bx := Bx.pure hC4.b; have hb : Below wr.heap.size wr w4 := hb.trans (hC4.b.mono hb.size); have hO5 : Own wr.heap.size 64 12 aat w4 (.slice pa2 pn2 pc2) L2 := hC4.o.rebase (fun i e => by have := hC4.o.ge e; omega); have hR5 : ∀ x ∈ L2, Rd (fun i => wr.heap.size ≤ i ∧ i ≠ bb ∧ Value.ownBlock (.slice pa2 pn2 pc2) ≠ some i) w4 x.pr.app := fun x hx => (hC4.rd x hx).weaken (fun i _ hi => ⟨by have := hi.1; omega, by have := hi.1; omega, hi.2⟩)
      have hpb : Value.ownBlock (.slice pa2 pn2 pc2) ≠ some bb := fun e => by have := hC4.o.ge e; omega
      clear hC4 hA5 hzb hbl; obtain ⟨w5, rfl⟩ := zj w4; refine hKq.out _ _ hb (fun zg => ?_); clear hKq Kq; (try simp only [Act.put, lsT, lsZ, lsS]); refine tkU 13 zg ?_
     all_goals
      obtain ⟨x0, x1, x2, x3, x4⟩ := Bx.a5; obtain ⟨xf0, xf1, xf2, xf3, xf4⟩ := Bx.f5; refine aq2 15 rfl (fun Kq hKq => ?_); go_simp; have Bx2 : Blk (((((w5.setCell ⟨bb, 0, none⟩ (.int .u32 yf)).setCell ⟨bb, 1, none⟩ (.string yg)).setCell ⟨bb, 2, none⟩ (.string yb)).setCell ⟨bb, 3, none⟩ (.slice pa2 pn2 pc2)).setCell ⟨bb, 4, none⟩ (.slice none 0 0)) bb [.int .u32 yf, .string yg, .string yb, .slice pa2 pn2 pc2, .slice none 0 0] := (((((Bx.set 0 (.int .u32 yf)).set 1 (.string yg)).set 2 (.string yb)).set 3 (.slice pa2 pn2 pc2)).set 4 (.slice none 0 0)); have hb6 : Below wr.heap.size wr (((((w5.setCell ⟨bb, 0, none⟩ (.int .u32 yf)).setCell ⟨bb, 1, none⟩ (.string yg)).setCell ⟨bb, 2, none⟩ (.string yb)).setCell ⟨bb, 3, none⟩ (.slice pa2 pn2 pc2)).setCell ⟨bb, 4, none⟩ (.slice none 0 0)) := (((((hb.setCell hbge _).setCell hbge _).setCell hbge _).setCell hbge _).setCell hbge _); have hU5 : Upd (fun i => i = bb) w5 (((((w5.setCell ⟨bb, 0, none⟩ (.int .u32 yf)).setCell ⟨bb, 1, none⟩ (.string yg)).setCell ⟨bb, 2, none⟩ (.string yb)).setCell ⟨bb, 3, none⟩ (.slice pa2 pn2 pc2)).setCell ⟨bb, 4, none⟩ (.slice none 0 0)) := ab6 bb [.int .u32 yf, .string yg, .string yb, .slice pa2 pn2 pc2, .slice none 0 0] 0 w5; obtain ⟨w6, hw6⟩ := zj (((((w5.setCell ⟨bb, 0, none⟩ (.int .u32 yf)).setCell ⟨bb, 1, none⟩ (.string yg)).setCell ⟨bb, 2, none⟩ (.string yb)).setCell ⟨bb, 3, none⟩ (.slice pa2 pn2 pc2)).setCell ⟨bb, 4, none⟩ (.slice none 0 0)); rw [← hw6] at Bx2 hb6 hU5 ⊢; clear hw6 x0 x1 x2 x3 x4 xf0 xf1 xf2 xf3 xf4; refine hKq.out _ _ ?_; clear hKq Kq; (try simp only [Act.put, lsT, lsZ, lsS]); refine asc ?_; have hO6 := hO5.upd hU5 (fun k hk e => hpb (by rw [hk, show k = bb from e])); have hR6 : ∀ x ∈ L2, Rd (fun i => wr.heap.size ≤ i ∧ i ≠ bb ∧ Value.ownBlock (.slice pa2 pn2 pc2) ≠ some i) w6 x.pr.app := fun x hx => (hR5 x hx).upd hU5 (fun i hi e => hi.2.1 e)
      clear hO5 hR5 hU5 hb zg; go_wp2; have hb := adl (qz w6.heap.size w6); refine acb (fun v => Below w6.heap.size w6 v) 10 hb (fun zg => ?_); refine tkU 0 zg ?_; refine tkG 1 zg ?_ (fun v hSw => (Bx2.pure hSw).at 4 rfl); refine tkU 2 zg ?_; refine tkG 3 zg ?_ (fun v hSw => (A.pure (hb6.trans (hSw.mono hb6.size))).at 2 rfl); refine tkU 4 zg ?_; refine tkU 5 zg ?_; refine tkU 6 zg ?_; refine tkG 7 zg ?_ (fun v hSw => bcell.out _ (hb6.trans (hSw.mono hb6.size))); refine aiu 8 rfl (fun Kq hKq => ?_); refine abe rfl (aaj (base := wr.heap.size) rfl (.tmp 91) (.tmp 97) 32 68 rfl amm aa9 ae8 (.slice none 0 0) [] rfl Own.nil _ zy rfl (hts.out.pure (hb6.trans (hb.mono hb6.size))) (by simp only [List.length_nil]; unfold maxLen; omega) (by simp only [List.length_nil]; omega) (by have := hb6.size; have := hb.size; omega) ?_); intro v3 w7 hO7 hgr hfr _; refine ⟨rfl, ?_⟩; rw [List.nil_append] at hO7; obtain ⟨ta2, tn2, tc2, rfl⟩ := hO7.shape3; obtain rfl : tn2 = zy.length := by obtain ⟨_, _, e, _⟩ := (hO7.slc aa9).len; injection e
      have hb : Below w6.heap.size w6 w7 := hb.grown hgr (by have := hb.size; omega) (fun j e => by simp [Value.ownBlock] at e); have htb : Value.ownBlock (.slice ta2 zy.length tc2) ≠ some bb := fun e => by have h1 := hb6.size; have h2 := Bx2.lt; rcases hfr with h | h <;> rw [h] at e; exact jp e (by simp [Value.ownBlock]); injection e with e; have : w6.heap.size = bb := e; omega
      have Bx7 := Bx2.pure hb; clear hfr hgr; refine hKq.out _ _ hb (fun zg => ?_); clear hKq Kq; (try simp only [Act.put, lsT, lsZ, lsS]); refine tkU 9 zg ?_; have x4 := Bx7.at 4 rfl; have xf4 := Bx7.frozen 4; refine aq2 10 rfl (fun Kq hKq => ?_); go_simp; have Bx8 := Bx7.set 4 (.slice ta2 zy.length tc2); have hU8 : Upd (fun i => i = bb) w7 (w7.setCell ⟨bb, 4, none⟩ (.slice ta2 zy.length tc2)) := Upd.set (S := fun i => i = bb) (p := ⟨bb, 4, none⟩) rfl _; have hb8 : Below wr.heap.size wr (w7.setCell ⟨bb, 4, none⟩ (.slice ta2 zy.length tc2)) := (hb6.trans (hb.mono hb6.size)).setCell hbge _; have hO8 := (hO6.pure hb).upd hU8 (fun k hk e => hpb (by rw [hk, show k = bb from e])); have hT8 := hO7.upd hU8 (fun k hk e => htb (by rw [hk, show k = bb from e])); have hR8 := fun x hx => ((hR6 x hx).lt.pure hb).upd hU8 (fun i hi e => hi.1.2.1 e)
      obtain ⟨w8, hw8⟩ := zj (w7.setCell ⟨bb, 4, none⟩ (.slice ta2 zy.length tc2)); rw [← hw8] at Bx8 hb8 hO8 hT8 hR8 ⊢; clear hw8 x4 xf4 hO6 hO7 hR6 Bx7 Bx2 hU8 htb; refine hKq.out _ _ ?_; clear hKq Kq; (try simp only [Act.put, lsT, lsZ, lsS]); refine asc ?_; clear hb hb6 zg; have O1 := O.pure hb8; have C1 := C.pure hb8; have o1 := O1.at 2 rfl; have of1 := O1.frozen 2; have Bx9 : Blk w8 bb [.int .u32 yf, .string yg, .string yb, .slice pa2 pn2 pc2, .slice ta2 zy.length tc2] := Bx8; obtain ⟨x0, x1, x2, x3, x4⟩ := Bx9.a5; have hal := (qz w8.heap.size w8).alloc (qj _) (.cells #[.int .u32 yf, .string yg, .string yb, .slice pa2 pn2 pc2, .slice ta2 zy.length tc2] 62); have N := Blk.new w8 [.int .u32 yf, .string yg, .string yb, .slice pa2 pn2 pc2, .slice ta2 zy.length tc2] 62; have C6 := C1.o.pure hal; have hEb : E.length ≤ 12 := by rw [hEl.out]; omega
      have hzx := hb8.size; have hbs : wq.heap.size ≤ (w8.alloc (.cells #[.int .u32 yf, .string yg, .string yb, .slice pa2 pn2 pc2, .slice ta2 zy.length tc2] 62)).heap.size := by have := hal.size; omega
      clear Bx8 hts; go_wp2_with (at_builtin; refine aaq (base := wq.heap.size) rfl (.tmp 101) (.tmp 103) 24 62 rfl afn aag _ E rfl C6 w8.heap.size 1 (BrT.mk (yf, yg, yb) (.slice pa2 pn2 pc2) (.slice ta2 zy.length tc2) L2 zy) (aeb _) rfl (fun j u hu => (N.cell j).trans hu) (by omega) (by unfold maxLen; omega) hbs ?_; intro g' cap' w9 hO9 hgr hfr; have hgU := Upd.grown (S := fun i => Value.ownBlock (.slice ba1 E.length bc1) = some i) hgr (fun k e => e); have O7 := ((O1.pure hal).upd hgU (fun e => by have := C1.o.ge e; omega)); have r1 := O7.at 2 rfl; have rf := O7.frozen 2); have hX : OwL 64 12 aat (fun x => x.pr.app) wr.heap.size (w8.alloc (.cells #[.int .u32 yf, .string yg, .string yb, .slice pa2 pn2 pc2, .slice ta2 zy.length tc2] 62)) (.slice pa2 pn2 pc2) L2 := ⟨hO8.pure hal, fun x hx => ((hR8 x hx).lt.pure hal).weaken (fun i _ hi => ⟨hi.1.1.1, hi.1.1.2.2⟩)⟩; have hTn := (hT8.pure hal).upd hgU (fun k hk e => by have h1 := hT8.ge hk; have h2 := C.o.lt e; omega); have hTo : ∀ b ∈ E, Own wq.heap.size 68 2 abc w9 b.tv b.zy := fun b hb => (((hT.out b hb).pure hb8).pure hal).upd hgU (fun k hk e => aaz C6 (((hT.out b hb).pure hb8).pure hal) (by decide) e hk)
      have C7 := C.add hzq (hb8.trans (hal.mono hb8.size)) (by decide) (x := (BrT.mk (yf, yg, yb) (.slice pa2 pn2 pc2) (.slice ta2 zy.length tc2) L2 zy)) hX hO9 hgr hfr; have hUs := Upd.set (S := fun i => i = (w.heap.size + 1 + 1)) (w := w9) (p := ⟨(w.heap.size + 1 + 1), 2, none⟩) rfl (.slice (some ⟨g', 0, none⟩) (E.length + 1) cap'); have C8 := qq (C7.upd hUs (fun i e => .inl (by have e : i = (w.heap.size + 1 + 1) := e; omega))); have O8 : Blk (w9.setCell ⟨w.heap.size + 1 + 1, 2, none⟩ (.slice (some ⟨g', 0, none⟩) (E.length + 1) cap')) (w.heap.size + 1 + 1) [.int .u64 nx, (.slice va D.length vc), (.slice (some ⟨g', 0, none⟩) (E.length + 1) cap'), .slice none 0 0] := O7.set 2 (.slice (some ⟨g', 0, none⟩) (E.length + 1) cap')
      have hT9 : Hid (∀ b ∈ E ++ [(BrT.mk (yf, yg, yb) (.slice pa2 pn2 pc2) (.slice ta2 zy.length tc2) L2 zy)], Own wq.heap.size 68 2 abc (w9.setCell ⟨w.heap.size + 1 + 1, 2, none⟩ (.slice (some ⟨g', 0, none⟩) (E.length + 1) cap')) b.tv b.zy) := qq (fun b hb => by
       rcases List.mem_append.1 hb with hb | hb
       ·exact (hTo b hb).upd hUs (fun k hk e => by have h1 := (hTo b hb).ge hk; have e : k = (w.heap.size + 1 + 1) := e; omega)
       ·rw [jc.1 hb]
        exact (hTn.rebase (fun k e => by have := hTn.ge e; omega)).upd hUs (fun k hk e => by have h1 := hTn.ge hk; have e : k = (w.heap.size + 1 + 1) := e; omega))
      have hU9 := (((hU.trans (Upd.of_below (S := fun i => i = (w.heap.size + 1 + 1)) (hb8.trans (hal.mono hb8.size))) (fun _ e _ => e)).trans (hgU.mono (T := fun i => i = (w.heap.size + 1 + 1) ∨ wq.heap.size ≤ i) (fun i e _ => .inr (by have := C1.o.ge e; omega))) (fun i e hi => by rcases e with e | e; exact e; omega)).trans hUs (fun _ e _ => e))
      have hD8 := qq (show (E ++ [(BrT.mk (yf, yg, yb) (.slice pa2 pn2 pc2) (.slice ta2 zy.length tc2) L2 zy)]).map BrT.b = (zk.take (k + 1)).map BrT.b by
       rw [List.map_append, hE.out, jx hkt, List.map_append, List.map_singleton, List.map_singleton, hxh.out]; congr 2; show Br.mk (yf, yg, yb) (L2.map PtT.p) zy = Br.mk (yf, yg, yb) (zu.map PtT.p) zy
       rw [hL2.out])
      clear C7 hgU O7 r1 rf o1 of1 hX C6 N O1 C1 hO9 hgr hfr hTn hTo hO8 hT8 hR8 hT x0 x1 x2 x3 x4 Bx9; go_roundw
      case rel => exact ⟨k + 1, _, _, by omega, by go_num, hD8, O8, C8.out, hT9, hU9⟩
      case measure => simp [intOf]; omega
    ·obtain rfl : k = zk.length := by omega
     rw [js] at hE; have R := ((R3.upd hUq (fun e => by have e : w.heap.size + 1 = (w.heap.size + 1 + 1) := e; omega)).upd hU (fun e => by have e : w.heap.size + 1 = (w.heap.size + 1 + 1) := e; omega)); have hhs : Slc adp 4 wr (.slice ha hs.length hc) hs := (hRh.out.pure hBw).h; have a3 := A.at 3 rfl; have o3 := O.at 3 rfl; have of3 := O.frozen 3; go_upto_region 20 with (at_builtin; refine aaj (base := wr.heap.size) rfl (.tmp 107) (.tmp 109) 25 90 rfl aql adi anl (.slice none 0 0) [] rfl Own.nil _ hs rfl hhs (by simp only [List.length_nil]; unfold maxLen; omega) (by simp only [List.length_nil]; omega) (qj _) ?_; intro v3 w7 hO7 hgr hfr _; rw [List.nil_append] at hO7; obtain ⟨ha2, hn2, hc2, rfl⟩ := hO7.shape3; obtain rfl : hn2 = hs.length := (by obtain ⟨_, _, e, _⟩ := (hO7.slc adi).len; injection e); have hb7 : Below wr.heap.size wr w7 := (qz _ _).grown hgr (qj _) (fun j e => by simp [Value.ownBlock] at e); have O7 := O.pure hb7; have n3 := O7.at 3 rfl; have nf3 := O7.frozen 3); have hUs := Upd.set (S := fun i => i = (w.heap.size + 1 + 1)) (w := w7) (p := ⟨(w.heap.size + 1 + 1), 3, none⟩) rfl (.slice ha2 hs.length hc2); have O8 : Blk (w7.setCell ⟨(w.heap.size + 1 + 1), 3, none⟩ (.slice ha2 hs.length hc2)) (w.heap.size + 1 + 1) [.int .u64 nx, (.slice va D.length vc), (.slice ba1 E.length bc1), (.slice ha2 hs.length hc2)] := O7.set 3 (.slice ha2 hs.length hc2); have R8 := (R.pure hb7).upd hUs (fun e => by have e : w.heap.size + 1 = (w.heap.size + 1 + 1) := e; omega); have hH8 := hO7.upd hUs (fun k hk e => by have h1 := hO7.ge hk; have e : k = (w.heap.size + 1 + 1) := e; omega); have hU8 := (Upd.of_below (S := fun i => i = (w.heap.size + 1 + 1)) hb7).trans hUs (fun _ e _ => e); obtain ⟨w8, hw8⟩ := zj (w7.setCell ⟨(w.heap.size + 1 + 1), 3, none⟩ (.slice ha2 hs.length hc2)); rw [← hw8] at O8 R8 hH8 hU8 ⊢; clear hw8 O7 n3 nf3 hb7 R O A a3 o3 of3 b2 hO7 hgr hfr hhs; obtain ⟨o0, o1, o2, o3⟩ := O8.a4; obtain ⟨r0, r1, r2, r3⟩ := R8.a4; obtain ⟨rf0, rf1, rf2, rf3⟩ := R8.f4; go_wp2; have hU := hU; have hUe := Upd.ent4 w8 (w.heap.size + 1) (.int .u64 nx) (.slice va D.length vc) (.slice ba1 E.length bc1) (.slice ha2 hs.length hc2); have K := R8.ent4 (.int .u64 nx) (.slice va D.length vc) (.slice ba1 E.length bc1) (.slice ha2 hs.length hc2); unfold ent4 at hUe K; obtain ⟨k0, k1, k2, k3⟩ := K.a4; refine bodyPost_ret (by simp [results, Tryz.results10, go_sem, k0, k1, k2, k3]; rfl) rfl ?_
     have hs' : (StT.mk nx (.slice va D.length vc) (.slice ba1 E.length bc1) (.slice ha2 hs.length hc2) D E hs).s = (StT.mk nx (.slice qa qs.length qc) (.slice ba zk.length bc) (.slice ha hs.length hc) qs zk hs).s := by
      unfold StT.s; dsimp only; rw [hD.out, hE.out]
     have hU2 := (hU8.mono (T := fun i => w.heap.size ≤ i ∧ i < w.heap.size + 3) (fun i e => by have e : i = (w.heap.size + 1 + 1) := e; omega)).trans (hUe.mono (T := fun i => w.heap.size ≤ i ∧ i < w.heap.size + 3) (fun i e => by have e : i = w.heap.size + 1 := e; omega)) (fun i e _ => e); have hH := hH8.upd hUe (fun k hk e => by have h1 := hH8.ge hk; have e : k = w.heap.size + 1 := e; have := hBw.size; have := hBq.size; omega); refine ⟨(StT.mk nx (.slice va D.length vc) (.slice ba1 E.length bc1) (.slice ha2 hs.length hc2) D E hs), rfl, hs', (StOw.of_cp (B := w.heap.size + 3) (w1 := wq) (w2 := wr) Cq.out (hU.mono (fun i e _ => by have e : i = (w.heap.size + 1 + 1) := e; omega)) C hT.out (hU2.mono (fun i e _ => e.2)) hH (by have := hBq.size; omega) (hwf.out.of_s hs')).base (by omega), ?_⟩; exact hBw.trans (hU2.below hBw.size (fun i e => e.1))
theorem bah (w : World) (q q2 : ByteArray) (i i2 : Int) : (binOp .eql 68 (.agg #[.string q, .int .u64 i]) (.agg #[.string q2, .int .u64 i2])).run prog w = .ok (.bool (acz ⟨q, i⟩ ⟨q2, i2⟩)) w := by
 have hf : prog.fieldsOf 68 = (match prog.underlying 68 with | some (.struct fs) => fs | _ => #[]) := rfl
 rw [underlying68] at hf
 simp only at hf
 have e : acz ⟨q, i⟩ ⟨q2, i2⟩ = (q == q2 && i == i2) := by
  unfold acz; rw [beq_toListBytes]; congr 1
 rw [e, run_eql_struct, show (10000 : Nat) = 9999 + 1 from rfl, run_equalIn_agg w 9999 _ _ _ (by rw [hf]; exact underlying68) (by kernel_rfl), hf]
 cases h1 : (q == q2) <;> cases h2 : (i == i2) <;> simp [go_sem, ae9, h1, h2]
theorem ar5 (w : World) (t : StT) (P : Nat → Prop) (la : Option Addr) (lc : Nat) (l : List Rf) (hR : StRd P w t) (hS : SmSt t) (hL : Slc abc 2 w (.slice la l.length lc) l) (hl : l.length ≤ 20) :
 Calls prog 21 #[t.arg, .slice la l.length lc] w fun e w' => ∃ t' : StT, e = .returned t'.arg ∧ t'.s = { t.s with qs := ab8 t.s.qs l } ∧ StRd (fun _ => True) w' t' ∧ Below w.heap.size w w' := by
 obtain ⟨S1, hS1⟩ : ∃ s, s = t.s := ⟨_, rfl⟩
 rw [← hS1]
 have hS1h := qq hS1
 clear hS1
 obtain ⟨nx, qa, qc, ba, bc, ha, hc, qs, zk, hs, rfl, -, -, -⟩ := hR.open
 have hA := (((qz w.heap.size w).alloc (qj _) (.cells #[.int .u64 nx, .slice qa qs.length qc, .slice ba zk.length bc, .slice ha hs.length hc] 27)).alloc (by simp) (.cells #[.int .u64 0, .slice none 0 0, .slice none 0 0, .slice none 0 0] 27))
 have hcp := qq (ar4 ((w.alloc (.cells #[.int .u64 nx, .slice qa qs.length qc, .slice ba zk.length bc, .slice ha hs.length hc] 27)).alloc (.cells #[.int .u64 0, .slice none 0 0, .slice none 0 0, .slice none 0 0] 27)) _ P (hR.pure hA) hS)
 rw [StT.arg_mk] at hcp ⊢
 have A3 : Blk ((w.alloc (.cells #[.int .u64 nx, .slice qa qs.length qc, .slice ba zk.length bc, .slice ha hs.length hc] 27)).alloc (.cells #[.int .u64 0, .slice none 0 0, .slice none 0 0, .slice none 0 0] 27)) w.heap.size [.int .u64 nx, .slice qa qs.length qc, .slice ba zk.length bc, .slice ha hs.length hc] := (Blk.new w [.int .u64 nx, .slice qa qs.length qc, .slice ba zk.length bc, .slice ha hs.length hc] 27).alloc _
 have R3 : Blk ((w.alloc (.cells #[.int .u64 nx, .slice qa qs.length qc, .slice ba zk.length bc, .slice ha hs.length hc] 27)).alloc (.cells #[.int .u64 0, .slice none 0 0, .slice none 0 0, .slice none 0 0] 27)) (w.heap.size + 1) [.int .u64 0, .slice none 0 0, .slice none 0 0, .slice none 0 0] := Blk.newE (w.alloc (.cells #[.int .u64 nx, .slice qa qs.length qc, .slice ba zk.length bc, .slice ha hs.length hc] 27)) [.int .u64 0, .slice none 0 0, .slice none 0 0, .slice none 0 0] 27 (w.heap.size + 1) (by simp)
 have hz2 := qq (show ((w.alloc (.cells #[.int .u64 nx, .slice qa qs.length qc, .slice ba zk.length bc, .slice ha hs.length hc] 27)).alloc (.cells #[.int .u64 0, .slice none 0 0, .slice none 0 0, .slice none 0 0] 27)).heap.size = w.heap.size + 2 by simp)
 obtain ⟨s0, s1, s2, s3⟩ := A3.a4
 have hLh := qq hL
 clear hR hL
 have zs : (prog.info? 27).map (fun i => (i.zero, i.size)) = some (some (.agg #[.int .u64 0, .slice none 0 0, .slice none 0 0, .slice none 0 0]), 4) := by kernel_rfl
 go_enter func21, ntmps21
 go_upto_region 2 with (go_at_call 10; (with_reducible refine hcp.out.mono ?_); rintro e w4 ⟨t2, rfl, ht2, hO2, hB2⟩; obtain ⟨nx2, qa2, qc2, ba2, bc2, ha2, hc2, Q0, R2, H2, rfl, -⟩ := hO2.open; rw [StT.arg_mk]; have ht2 := qq ht2)
 obtain ⟨B, hB⟩ := zj (((w.alloc (.cells #[.int .u64 nx, .slice qa qs.length qc, .slice ba zk.length bc, .slice ha hs.length hc] 27)).alloc (.cells #[.int .u64 0, .slice none 0 0, .slice none 0 0, .slice none 0 0] 27)).heap.size)
 have hBz : B = w.heap.size + 2 := hB.trans hz2.out
 rw [← hB] at hO2 hB2
 have hz4 : B ≤ w4.heap.size := by have := hB2.size; omega
 have hA5 := (qz w4.heap.size w4).alloc (qj _) (.cells #[.int .u64 nx2, .slice qa2 Q0.length qc2, .slice ba2 R2.length bc2, .slice ha2 H2.length hc2] 27)
 have O0 := Blk.new w4 [.int .u64 nx2, .slice qa2 Q0.length qc2, .slice ba2 R2.length bc2, .slice ha2 H2.length hc2] 27
 have hb4 : Below w.heap.size w w4 := hA.trans (hB2.mono (by omega))
 have hBu0 := hb4.trans (hA5.mono hb4.size)
 have R0 := (R3.pure (hB ▸ hB2)).pure hA5
 have hMlt := qq (show ∀ (x : Nat) (v : Value) (g : Nat), (((StT.mk nx2 (.slice qa2 Q0.length qc2) (.slice ba2 R2.length bc2) (.slice ha2 H2.length hc2) Q0 R2 H2)).qs.map QuT.mv)[x]? = some v → v.ownBlock = some g → g < w4.heap.size from fun x v g hv e => by
  obtain ⟨q, hq, rfl⟩ := jv.1 (List.mem_of_getElem? hv)
  exact (hO2.m q hq).lt e)
 have M0 := (MkSt.start (l := l) hO2).pure hA5
 obtain ⟨u, hu⟩ := zj (w4.alloc (.cells #[.int .u64 nx2, .slice qa2 Q0.length qc2, .slice ba2 R2.length bc2, .slice ha2 H2.length hc2] 27))
 rw [← hu] at O0 hBu0 R0 M0 ⊢
 clear hu s0 s1 s2 s3 A3 R3 hA hA5 hO2 hB2 hb4 zs hB hcp
 have hqe : Q0.map QuT.q = qs.map QuT.q := congrArg St.qs ht2.out
 obtain ⟨S, hSq⟩ : ∃ S : List Qu, S = Q0.map QuT.q := ⟨_, rfl⟩
 have M1 : MkSt B (StT.mk nx2 (.slice qa2 Q0.length qc2) (.slice ba2 R2.length bc2) (.slice ha2 H2.length hc2) Q0 R2 H2) l S 0 0 0 u Q0 := hSq ▸ M0
 have hSl : Q0.length = S.length := by rw [hSq, jf]
 have hSb : S.length ≤ 12 := by rw [hSq, hqe, jf]; exact hS.q
 have hSm := qq (show ∀ q ∈ S, q.zw.length ≤ 40 from fun q hq => by
  rw [hSq, hqe] at hq; obtain ⟨y, hy, rfl⟩ := jv.1 hq; have := (hS.qs y hy).l; show (y.zw.map MsT.m).length ≤ 40
  rw [jf]; omega)
 have hSqh := qq hSq
 clear M0 hS hSq hqe
 obtain ⟨T, hT⟩ := zj (StT.mk nx2 (.slice qa2 Q0.length qc2) (.slice ba2 R2.length bc2) (.slice ha2 H2.length hc2) Q0 R2 H2)
 rw [← hT] at M1 hMlt
 have hTq := qq (show T.qv = (.slice qa2 Q0.length qc2) by rw [hT])
 have hTh := qq hT
 clear hT
 have hli : (l.length : Int) ≤ 20 := by omega
 have hSi : (S.length : Int) ≤ 9223372036854775807 := by omega
 rw [hSl] at O0 ⊢
 go_wp2
 go_loopw [6, 7, 8] (fun s6 s7 s8 wr => ∃ (i : Nat) (Q : List QuT), i ≤ S.length ∧ s6 = .int .i64 i ∧ MkSt B T l S i 0 0 wr Q ∧ Upd (fun i => B ≤ i ∧ i < w4.heap.size) u wr) (fun s6 s7 s8 _ => S.length - (intOf s6).toNat)
 case atStart => exact ⟨0, Q0, Nat.zero_le _, rfl, M1, Upd.refl _ _⟩
 case round =>
  obtain ⟨i, Q, hi, rfl, M, hU⟩ := hrel; have O := O0.upd hU (fun e => by have := e.2; omega); have b1 := O.at 1 rfl; by_cases hit : i < S.length
  ·have hiti : (i : Int) < (S.length : Int) := by omega
   have hi0 : (0 : Int) ≤ (i : Int) := by omega
   obtain ⟨gq, ma, mc, rfl, hv⟩ := M.row hTq.out hit; obtain ⟨ml, hml⟩ := zj (S[i].zw.length); rw [← hml] at hv; have hmb : ml ≤ 40 := by rw [hml]; exact hSm.out _ (qy hit)
   have hmi : (ml : Int) ≤ 40 := by omega
   have hvh := qq hv; have hmlh := qq hml; clear hv hml; go_wp2; go_loopw [7, 8] (fun s7 s8 wr => ∃ (k : Nat) (Q : List QuT), k ≤ ml ∧ s7 = .int .i64 k ∧ MkSt B T l S i k 0 wr Q ∧ Upd (fun i => B ≤ i ∧ i < w4.heap.size) u wr) (fun s7 s8 _ => ml - (intOf s7).toNat)
   case atStart => exact ⟨0, Q, Nat.zero_le _, rfl, M, hU⟩
   case round =>
    obtain ⟨k, Q, hk, rfl, M, hU⟩ := hrel; clear b1 O; have O := O0.upd hU (fun e => by have := e.2; omega); have b1 := O.at 1 rfl; obtain ⟨d0, d2⟩ := M.cells hTq.out hit hvh.out; by_cases hkt : k < ml
    ·have hkti : (k : Int) < (ml : Int) := by omega
     have hk0 : (0 : Int) ≤ (k : Int) := by omega
     have hkS : k < S[i].zw.length := by rw [← hmlh.out]; exact hkt
     obtain ⟨gm, rfl, hgB⟩ := M.msg hit hkS hvh.out; have hgl := hMlt.out _ _ gm hvh.out rfl; go_wp2; clear b1 O d0 d2; go_loopw [8] (fun s8 wr => ∃ (j : Nat) (Q : List QuT), j ≤ l.length ∧ s8 = .int .i64 j ∧ MkSt B T l S i k j wr Q ∧ Upd (fun i => B ≤ i ∧ i < w4.heap.size) u wr) (fun s8 _ => l.length - (intOf s8).toNat)
     case atStart => exact ⟨0, Q, Nat.zero_le _, rfl, M, hU⟩
     case round =>
      obtain ⟨j, Q, hj, rfl, M, hU⟩ := hrel; have O := O0.upd hU (fun e => by have := e.2; omega); have b1 := O.at 1 rfl; obtain ⟨d0, d2⟩ := M.cells hTq.out hit hvh.out; obtain ⟨g0, ⟨rd, g3⟩, gf⟩ := M.mcells hit hkS hvh.out; obtain ⟨nm, hnm⟩ := zj (S[i].name); obtain ⟨idm, hidm⟩ := zj (S[i].zw[k].id); rw [← hnm] at d0; rw [← hidm] at g0; by_cases hjt : j < l.length
      ·have hjti : (j : Int) < (l.length : Int) := by omega
       have hj0 : (0 : Int) ≤ (j : Int) := by omega
       have hBw : Below w.heap.size w wr := hBu0.trans (hU.below hBu0.size (fun i e => by have := e.1; omega)); have hLw := hLh.out.pure hBw; obtain ⟨gl, offl, rfl⟩ := hLw.addrB hjt; obtain ⟨q, id, hx, e0, e1⟩ := ado hLw hjt; obtain ⟨b, hb⟩ := zz (acz ⟨q, id⟩ ⟨nm, idm⟩); have hq := fun (u : World) => (bah u q nm id idm).trans (show _ = Result.ok (.bool b) u by rw [hb])
       have hbh := qq (show acz l[j] ⟨S[i].name, S[i].zw[k].id⟩ = b by rw [hx, ← hnm, ← hidm, hb]); have hlc := qq (fun (v : World) (h : Below wr.heap.size wr v) => show v.cell? ⟨gl, offl + j * 2, none⟩ = some (.string q) ∧ v.cell? ⟨gl, offl + j * 2 + 1, none⟩ = some (.int .u64 id) from ⟨(hLw.pure h).get j hjt 0 (.string q) (by rw [hx]; rfl), (hLw.pure h).get j hjt 1 (.int .u64 id) (by rw [hx]; rfl)⟩); have hnmh := qq hnm; have hidh := qq hidm; clear hx hb hnm hidm hLw; go_upto_region 11 with fail; have hb := adl (qz wr.heap.size wr); refine aal (fun v => Below wr.heap.size wr v) hb (fun zg => ?_); refine tkH 0 zg ?_; refine tkH 1 zg ?_; refine tkH 2 zg ?_; refine tkF 3 zg ?_ (fun v hSw => hlc.out _ hSw); refine tkH 4 zg ?_; refine tkF 5 zg ?_ (fun v hSw => (O.pure hSw).at 1 rfl); refine tkH 6 zg ?_; refine tkH 7 zg ?_; refine tkH 8 zg ?_; refine tkH 9 zg ?_ (hy := fun v hSw => by (try dsimp only at hSw); obtain ⟨y0, y2⟩ := (M.pure hSw).cells hTq.out hit hvh.out; rw [← hnmh.out] at y0; clear y2; clear hSw; go_simp; (try with_reducible rfl)); refine tkH 10 zg ?_; refine tkF 11 zg ?_ (fun v hSw => (O.pure hSw).at 1 rfl); refine tkH 12 zg ?_; refine tkH 13 zg ?_; refine tkH 14 zg ?_; refine tkH 15 zg ?_ (hy := fun v hSw => by (try dsimp only at hSw); obtain ⟨y0, y2⟩ := (M.pure hSw).cells hTq.out hit hvh.out; clear y0; clear hSw; go_simp; (try with_reducible rfl)); refine tkH 16 zg ?_; refine tkH 17 zg ?_; refine tkH 18 zg ?_; refine tkH 19 zg ?_ (hy := fun v hSw => by (try dsimp only at hSw); obtain ⟨y0, -, -⟩ := (M.pure hSw).mcells hit hkS hvh.out; rw [← hidh.out] at y0; clear hSw; go_simp; (try with_reducible rfl)); refine tkH 20 zg ?_; refine tkH 21 zg ?_; refine ah9 ?_; have hBd := adl (qz wr.heap.size wr); have M7 := M.pure hBd; have hU7 := (hU.trans (Upd.of_below (S := fun i => B ≤ i ∧ i < w4.heap.size) hBd) (fun _ e _ => e)); obtain ⟨w7, hw7⟩ := zj wr.drew; rw [← hw7] at M7 hU7 ⊢; clear hw7 hBd M hU b1 O d0 d2 g0 g3 gf hb zg hBw; cases b
       ·go_wp2
        go_roundw
        case rel => exact ⟨j + 1, Q, by omega, by go_num, M7.to (M7.m.skip hit hkS hjt hbh.out), hU7⟩
        case measure => simp [intOf]; omega
       ·have O := O0.upd hU7 (fun e => by have := e.2; omega); have b1 := O.at 1 rfl
        obtain ⟨d0, d2⟩ := M7.cells hTq.out hit hvh.out; obtain ⟨g0, ⟨rd, g3⟩, gf⟩ := M7.mcells hit hkS hvh.out; clear d0 g0; go_wp2; go_roundw
        case rel => exact ⟨j + 1, aeu Q i k, by omega, by go_num, M7.hit hit hkS hjt hbh.out hvh.out, hU7.trans (Upd.set (S := fun i => B ≤ i ∧ i < w4.heap.size) (p := ⟨gm, k * 11 + 1 + 2, none⟩) ⟨hgB, hgl⟩ (.bool true)) (fun _ e _ => e)⟩
        case measure => simp [intOf]; omega
      ·obtain rfl : j = l.length := by omega
       clear d0 d2 g0 g3 gf hnm hidm; go_wp2; go_roundw
       case rel => exact ⟨k + 1, Q, by omega, by go_num, M.to M.m.row, hU⟩
       case measure => simp [intOf]; omega
    ·obtain rfl : k = ml := by omega
     go_wp2; go_roundw
     case rel => exact ⟨i + 1, Q, by omega, by go_num, M.to (M.m.queue hit hmlh.out), hU⟩
     case measure => simp [intOf]; omega
  ·obtain rfl : i = S.length := by omega
   have R := R0.upd hU (fun e => by have := e.1; omega); obtain ⟨o0, o1, o2, o3⟩ := O.a4; obtain ⟨r0, r1, r2, r3⟩ := R.a4; obtain ⟨rf0, rf1, rf2, rf3⟩ := R.f4; go_wp2; have hUe := Upd.ent4 wr (w.heap.size + 1) (.int .u64 nx2) (.slice qa2 S.length qc2) (.slice ba2 R2.length bc2) (.slice ha2 H2.length hc2); have K := R.ent4 (.int .u64 nx2) (.slice qa2 S.length qc2) (.slice ba2 R2.length bc2) (.slice ha2 H2.length hc2); unfold ent4 at hUe K; obtain ⟨k0, k1, k2, k3⟩ := K.a4; refine bodyPost_ret (by simp [results, Tryz.results21, go_sem, k0, k1, k2, k3]; rfl) rfl ?_; have hM := M.m.all; have hO := (M.o.upd hUe (fun i e => by have e : i = w.heap.size + 1 := e; omega)); rw [hTh.out] at hO
   have hs : (StT.mk nx2 (.slice qa2 Q0.length qc2) (.slice ba2 R2.length bc2) (.slice ha2 H2.length hc2) Q R2 H2).s = { S1 with qs := ab8 S1.qs l } := by
    have e : S1 = ((StT.mk nx2 (.slice qa2 Q0.length qc2) (.slice ba2 R2.length bc2) (.slice ha2 H2.length hc2) Q0 R2 H2)).s := by rw [hS1h.out]; exact ht2.out.symm
    rw [e]; show St.mk nx2 (Q.map QuT.q) _ _ = St.mk nx2 (ab8 (Q0.map QuT.q) l) _ _
    rw [hM, hSqh.out]; rfl
   refine ⟨StT.mk nx2 (.slice qa2 Q0.length qc2) (.slice ba2 R2.length bc2) (.slice ha2 H2.length hc2) Q R2 H2, by rw [hSl]; rfl, hs, hO.rd.weaken (fun _ _ => trivial), ?_⟩; have hBw : Below w.heap.size w wr := hBu0.trans (hU.below hBu0.size (fun i e => by have := e.1; omega)); exact hBw.trans (hUe.below hBw.size (fun i e => by have e : i = w.heap.size + 1 := e; omega))
theorem an9 (hCk : ayk) (w : World) (t : StT) (q : ByteArray) (id : Int) (P : Nat → Prop) (hR : StRd P w t) (hT : Tb w) (hS : StSm t) :
 Calls prog 18 #[t.arg, .agg #[.string q, .int .u64 id]] w fun e w' => e = .returned (.tuple #[xnV (t.s.lock ⟨q, id⟩), .bool (t.s.lock ⟨q, id⟩).isSome]) ∧ Below w.heap.size w w' := by
 obtain ⟨nx, qa, qc, ba, bc, ha, hc, qs, zk, hs, rfl, -, -, -⟩ := hR.open
 rw [StT.arg_mk]
 obtain ⟨lk, hlk⟩ := zj ((StT.mk nx (.slice qa qs.length qc) (.slice ba zk.length bc) (.slice ha hs.length hc) qs zk hs).s.lock ⟨q, id⟩)
 rw [← hlk]
 have hlk0 := qq hlk
 clear hlk
 have hA := ((qz w.heap.size w).alloc (qj _) (.cells #[.int .u64 nx, .slice qa qs.length qc, .slice ba zk.length bc, .slice ha hs.length hc] 27)).alloc (by simp) (.cells #[.string q, .int .u64 id] 68) |>.alloc (by simp <;> omega) (.cells #[.int .u32 0, .string ⟨#[]⟩, .string ⟨#[]⟩] 30)
 have A1 : Blk (((w.alloc (.cells #[.int .u64 nx, .slice qa qs.length qc, .slice ba zk.length bc, .slice ha hs.length hc] 27)).alloc (.cells #[.string q, .int .u64 id] 68)).alloc (.cells #[.int .u32 0, .string ⟨#[]⟩, .string ⟨#[]⟩] 30)) w.heap.size [.int .u64 nx, .slice qa qs.length qc, .slice ba zk.length bc, .slice ha hs.length hc] := ((Blk.new w [.int .u64 nx, .slice qa qs.length qc, .slice ba zk.length bc, .slice ha hs.length hc] 27).alloc _).alloc _
 have R1 : Blk (((w.alloc (.cells #[.int .u64 nx, .slice qa qs.length qc, .slice ba zk.length bc, .slice ha hs.length hc] 27)).alloc (.cells #[.string q, .int .u64 id] 68)).alloc (.cells #[.int .u32 0, .string ⟨#[]⟩, .string ⟨#[]⟩] 30)) (w.heap.size + 1) [.string q, .int .u64 id] := (Blk.newE (w.alloc (.cells #[.int .u64 nx, .slice qa qs.length qc, .slice ba zk.length bc, .slice ha hs.length hc] 27)) [.string q, .int .u64 id] 68 (w.heap.size + 1) (by simp)).alloc _
 have X1 : Blk (((w.alloc (.cells #[.int .u64 nx, .slice qa qs.length qc, .slice ba zk.length bc, .slice ha hs.length hc] 27)).alloc (.cells #[.string q, .int .u64 id] 68)).alloc (.cells #[.int .u32 0, .string ⟨#[]⟩, .string ⟨#[]⟩] 30)) (w.heap.size + 2) [.int .u32 0, .string ⟨#[]⟩, .string ⟨#[]⟩] := Blk.newE ((w.alloc (.cells #[.int .u64 nx, .slice qa qs.length qc, .slice ba zk.length bc, .slice ha hs.length hc] 27)).alloc (.cells #[.string q, .int .u64 id] 68)) [.int .u32 0, .string ⟨#[]⟩, .string ⟨#[]⟩] 30 (w.heap.size + 2) (by simp)
 have hck := ajx hCk (((w.alloc (.cells #[.int .u64 nx, .slice qa qs.length qc, .slice ba zk.length bc, .slice ha hs.length hc] 27)).alloc (.cells #[.string q, .int .u64 id] 68)).alloc (.cells #[.int .u32 0, .string ⟨#[]⟩, .string ⟨#[]⟩] 30)) _ P (hR.pure hA) (hT.pure hA) hS
 rw [StT.arg_mk] at hck
 obtain ⟨cc, hcc⟩ := zj ((StT.mk nx (.slice qa qs.length qc) (.slice ba zk.length bc) (.slice ha hs.length hc) qs zk hs).s.chk)
 rw [← hcc] at hck
 have hck := qq hck
 have hRh := qq hR
 have hbl : zk.length ≤ 1000000 := hS.b
 clear hR hS hT
 have zx := ahk
 go_enter func18, ntmps18
 go_upto_region 1 with fail
 obtain ⟨u, hu⟩ := zj (((w.alloc (.cells #[.int .u64 nx, .slice qa qs.length qc, .slice ba zk.length bc, .slice ha hs.length hc] 27)).alloc (.cells #[.string q, .int .u64 id] 68)).alloc (.cells #[.int .u32 0, .string ⟨#[]⟩, .string ⟨#[]⟩] 30))
 rw [← hu] at hA A1 R1 X1 hck ⊢
 clear hu zx
 obtain ⟨s0, s1, s2, s3⟩ := A1.a4
 rcases bbp (StT.mk nx (.slice qa qs.length qc) (.slice ba zk.length bc) (.slice ha hs.length hc) qs zk hs).s with h0 | h0
 ·obtain rfl : cc = 0 := hcc.trans h0
  have hok := awg.1 h0; have hlk1 : lk = akv zk ⟨q, id⟩ := by rw [hlk0.out]; unfold St.lock; rw [qk (by rw [hok]; simp)]; rfl
  have hlk := qq hlk1; clear hlk1 hcc h0 hok; go_upto_region 3 with (go_at_call 15; (with_reducible refine hck.out.mono ?_); rintro e w2 ⟨rfl, hB2⟩); have hB3 := hA.trans (hB2.mono hA.size); have A2 := A1.pure hB2; have R2 := R1.pure hB2; have X2 := X1.pure hB2; have hlc := qq (aka w2 nx qa qs.length qc ba bc ha hs.length hc zk q id P (hRh.out.pure hB3).b (hRh.out.pure hB3).e hbl); obtain ⟨a0, a1, a2, a3⟩ := A2.a4; obtain ⟨r0, r1⟩ := R2.a2; clear s0 s1 s2 s3; go_wp2_with (go_at_call 63; (with_reducible refine hlc.out.mono ?_); rintro e w3 ⟨rfl, hB4⟩; rw [← hlk.out]; have X3 := X2.pure hB4; obtain ⟨f0, f1, f2⟩ := X3.f3; obtain ⟨x0, x1, x2⟩ := X3.a3; obtain ⟨xf, xg, xb, hxn⟩ : ∃ (xf : Int) (xg xb : ByteArray), xnV lk = .agg #[.int .u32 xf, .string xg, .string xb] := (by cases lk with | none => exact ⟨_, _, _, rfl⟩ | some x => exact ⟨_, _, _, rfl⟩); obtain ⟨bl, hbl⟩ := zj lk.isSome; rw [hxn, ← hbl]; have hxh := qq hxn; have hblh := qq hbl; clear hxn hbl); have K := X3.ent3 (.int .u32 xf) (.string xg) (.string xb); have hB5 := hB3.trans (hB4.mono hB3.size); have hU := afo hB5 (B := w.heap.size + 2) (by omega) (.int .u32 xf) (.string xg) (.string xb); unfold ent3 at K hU; obtain ⟨k0, k1, k2⟩ := K.a3; refine bodyPost_ret (by simp [results, Tryz.results18, go_sem, k0, k1, k2]; rfl) rfl ?_; exact ⟨by rw [hxh.out, ← hblh.out], hU⟩
 ·obtain rfl : cc = 140 := hcc.trans h0
  have hlk2 : lk = none := by
   rw [hlk0.out]; unfold St.lock; rw [qw (Bool.eq_false_iff.2 (fun h => by rw [awg.2 h] at h0; exact jp h0 (by decide)))]
  subst hlk2; clear hcc h0; go_wp2_with (go_at_call 15; (with_reducible refine hck.out.mono ?_); rintro e w2 ⟨rfl, hB2⟩; have X2 := X1.pure hB2; obtain ⟨f0, f1, f2⟩ := X2.f3; obtain ⟨x0, x1, x2⟩ := X2.a3); have K := X2.ent3 (.int .u32 0) (.string ⟨#[]⟩) (.string ⟨#[]⟩); have hB3 := hA.trans (hB2.mono hA.size); have hU := afo hB3 (B := w.heap.size + 2) (by omega) (.int .u32 0) (.string ⟨#[]⟩) (.string ⟨#[]⟩); unfold ent3 at K hU; obtain ⟨k0, k1, k2⟩ := K.a3; refine bodyPost_ret (by simp [results, Tryz.results18, go_sem, k0, k1, k2]; rfl) rfl ?_; exact ⟨rfl, hU⟩
theorem acf {B : Nat} {w : World} {Q : Prop} {f : FuncId} {args : Array Value} {u : World} (h : Calls prog f args u (amt B w Q)) {b : Bool} (hb : b = true ↔ Q) : Calls prog f args u (fun e w' => e = .returned (.bool b) ∧ Below B w w') := h.mono (fun _ _ h => akj h b hb)
theorem aey (Q : Prop) : ∃ b : Bool, b = true ↔ Q := by
 rcases Classical.em Q with h | h
 ·exact ⟨true, ⟨fun _ => h, fun _ => rfl⟩⟩
 ·exact agp
theorem ave {B : Nat} {w w' : World} (h : Below B w w') : Below B w w'.drew := ⟨h.os, h.tape, h.output, h.size, h.block⟩
theorem avf {a b : ByteArray} : (a.toList == b.toList) = true ↔ a = b := by rw [beq_iff_eq]; exact ⟨toList_inj, fun h => by rw [h]⟩
theorem avg (w : World) (idu : Int) (keyu : ByteArray) (duru redu : Bool) (midu : ByteArray) (uku unu : Int) (usu : ByteArray) (ukau : Option Addr) (ukcu : Nat) (ulau : Option Addr) (ulcu : Nat) (uksu : List ByteArray) (ulu : List VT) (bodyu : ByteArray) (idx : Int) (keyx : ByteArray) (durx redx : Bool) (midx : ByteArray) (ukx unx : Int) (usx : ByteArray) (ukax : Option Addr) (ukcx : Nat) (ulax : Option Addr) (ulcx : Nat) (uksx : List ByteArray) (ulx : List VT) (bodyx : ByteArray) (P P2 : Nat → Prop) (hR : Rd P w (VT.mk uku unu usu (.slice ukau uksu.length ukcu) (.slice ulau ulu.length ulcu) uksu ulu)) (hR2 : Rd P2 w (VT.mk ukx unx usx (.slice ukax uksx.length ukcx) (.slice ulax ulx.length ulcx) uksx ulx)) : Calls prog 68 #[.agg #[.int .u64 idu, .string keyu, .bool duru, .bool redu, .string midu, .int .u8 uku, .int .u64 unu, .string usu, .slice ukau uksu.length ukcu, .slice ulau ulu.length ulcu, .string bodyu], .agg #[.int .u64 idx, .string keyx, .bool durx, .bool redx, .string midx, .int .u8 ukx, .int .u64 unx, .string usx, .slice ukax uksx.length ukcx, .slice ulax ulx.length ulcx, .string bodyx]] w (amt w.heap.size w ((MsT.mk idu (PT.mk keyu duru redu midu (VT.mk uku unu usu (.slice ukau uksu.length ukcu) (.slice ulau ulu.length ulcu) uksu ulu)) bodyu).m = (MsT.mk idx (PT.mk keyx durx redx midx (VT.mk ukx unx usx (.slice ukax uksx.length ukcx) (.slice ulax ulx.length ulcx) uksx ulx)) bodyx).m)) := by
 have hB0 := ((qz w.heap.size w).alloc (qj _) (.cells #[.int .u64 idu, .string keyu, .bool duru, .bool redu, .string midu, .int .u8 uku, .int .u64 unu, .string usu, .slice ukau uksu.length ukcu, .slice ulau ulu.length ulcu, .string bodyu] 60))
 have hB1 := hB0.alloc hB0.size (.cells #[.int .u64 idx, .string keyx, .bool durx, .bool redx, .string midx, .int .u8 ukx, .int .u64 unx, .string usx, .slice ukax uksx.length ukcx, .slice ulax ulx.length ulcx, .string bodyx] 60)
 have b0 := (Blk.new w [.int .u64 idu, .string keyu, .bool duru, .bool redu, .string midu, .int .u8 uku, .int .u64 unu, .string usu, .slice ukau uksu.length ukcu, .slice ulau ulu.length ulcu, .string bodyu] 60).alloc (.cells #[.int .u64 idx, .string keyx, .bool durx, .bool redx, .string midx, .int .u8 ukx, .int .u64 unx, .string usx, .slice ukax uksx.length ukcx, .slice ulax ulx.length ulcx, .string bodyx] 60)
 have b1 := Blk.newK (w.alloc (.cells #[.int .u64 idu, .string keyu, .bool duru, .bool redu, .string midu, .int .u8 uku, .int .u64 unu, .string usu, .slice ukau uksu.length ukcu, .slice ulau ulu.length ulcu, .string bodyu] 60)) [.int .u64 idx, .string keyx, .bool durx, .bool redx, .string midx, .int .u8 ukx, .int .u64 unx, .string usx, .slice ukax uksx.length ukcx, .slice ulax ulx.length ulcx, .string bodyx] 60 (w.heap.size + 1) (by simp)
 obtain ⟨c0, c1, c2, c3, c4, c5, c6, c7, c8, c9, c10⟩ := b0.a11
 obtain ⟨d0, d1, d2, d3, d4, d5, d6, d7, d8, d9, d10⟩ := b1.a11
 obtain ⟨a1, h1⟩ := zz (idu == idx)
 obtain ⟨a2, h2⟩ := zz (bodyu.toList == bodyx.toList)
 obtain ⟨a3, h3⟩ := aey ((PT.mk keyu duru redu midu (VT.mk uku unu usu (.slice ukau uksu.length ukcu) (.slice ulau ulu.length ulcu) uksu ulu)).p = (PT.mk keyx durx redx midx (VT.mk ukx unx usx (.slice ukax uksx.length ukcx) (.slice ulax ulx.length ulcx) uksx ulx)).p)
 have hps := acf (ald (PT.mk keyu duru redu midu (VT.mk uku unu usu (.slice ukau uksu.length ukcu) (.slice ulau ulu.length ulcu) uksu ulu)) (PT.mk keyx durx redx midx (VT.mk ukx unx usx (.slice ukax uksx.length ukcx) (.slice ulax ulx.length ulcx) uksx ulx)) P P2 _ (hR.pure hB1) (hR2.pure hB1)) h3
 rw [PT.arg_mk, PT.arg_mk] at hps
 have hpsh := qq hps
 have hiff := qq (show (a1 && a2 && a3) = true ↔ (MsT.mk idu (PT.mk keyu duru redu midu (VT.mk uku unu usu (.slice ukau uksu.length ukcu) (.slice ulau ulu.length ulcu) uksu ulu)) bodyu).m = (MsT.mk idx (PT.mk keyx durx redx midx (VT.mk ukx unx usx (.slice ukax uksx.length ukcx) (.slice ulax ulx.length ulcx) uksx ulx)) bodyx).m by
  rw [jj, jj, ← h1, ← h2, h3, beq_iff_eq, avf]; unfold MsT.m; rw [Ms.mk.injEq]
  exact ⟨fun h => ⟨h.1.1, h.2, h.1.2⟩, fun h => ⟨⟨h.1, h.2.2⟩, h.2.1⟩⟩)
 clear h3 hps
 cases a1 <;> cases a2
 all_goals
  go_enter func68, ntmps68; go_wp2_with (go_at_call 69; (with_reducible refine hpsh.out.mono ?_); rintro e w1 ⟨rfl, hB2⟩; have hB3 := hB1.trans (hB2.mono hB1.size)); go_ret; exact acn (by simpa using hiff.out) (by first | exact hB3 | exact hB1)
theorem agq {P : Prop} (h : P := by
 go_roundw
 case rel => exact ⟨k + 1, by omega, by go_num, qq (hst.out (hbh.out.1 (by simp))), hB3⟩
 case measure => simp [intOf]; omega) : P := h
theorem agr {P : Prop} (h : P := by
 go_ret
 exact adm (fun h => jp (hbh.out.2 (hno.out h)) (by simp)) hB3) : P := h
theorem avh (w : World) (la xa : Option Addr) (lc xc : Nat) (l l2 : List MsT) (P P2 : Nat → Prop) (hL : Slc abl 11 w (.slice la l.length lc) l) (hL2 : Slc abl 11 w (.slice xa l2.length xc) l2) (hml : l.length ≤ 1000000) (hsub : ∀ x ∈ l, Rd P w x.pr.app) (hsub2 : ∀ x ∈ l2, Rd P2 w x.pr.app) :
 Calls prog 67 #[.slice la l.length lc, .slice xa l2.length xc, .func (.func 68) #[] #[]] w (amt w.heap.size w (l.map MsT.m = l2.map MsT.m)) := by
 have hsubh := qq hsub; have hsub2h := qq hsub2
 have hmi : (l.length : Int) ≤ 1000000 := by omega
 clear hsub hsub2
 by_cases e : l2.length = l.length
 rotate_left 1
 ·have h1 : ¬ (l.length : Int) = (l2.length : Int) := by omega
  have h2 : ((l.length : Int) != (l2.length : Int)) = true := bne_iff_ne.2 h1; have hno := qq (fun h : l.map MsT.m = l2.map MsT.m => e (by have := congrArg List.length h; simpa using this.symm)); clear e; go_enter func67, ntmps67; exact ada
 rw [e] at hL2 ⊢
 have hll := qq e
 clear e
 go_enter func67, ntmps67
 go_wp2
 go_loopw [17] (fun s5 wr => ∃ (k : Nat), k ≤ l.length ∧ s5 = .int .i64 k ∧ Hid ((l.map MsT.m).take k = (l2.map MsT.m).take k) ∧ Below w.heap.size w wr) (fun s5 _ => l.length - (intOf s5).toNat)
 case atStart => exact ⟨0, by omega, rfl, qq (by simp), qz _ _⟩
 case round =>
  obtain ⟨k, hk, rfl, htk, hB⟩ := hrel; by_cases hlt : k < l.length
  ·have h1 : (k : Int) < (l.length : Int) := by omega
   have hlt2 : k < l2.length := by rw [hll.out]; exact hlt
   have hLr := hL.pure hB; have hLr2 := hL2.pure hB; rw [← hll.out] at hLr2; obtain ⟨g, off, rfl⟩ := hLr.addrB hlt; obtain ⟨g2, off2, rfl⟩ := hLr2.addrB hlt2; have hRk := (hsubh.out l[k] (qy hlt)).pure hB; have hRk2 := (hsub2h.out l2[k] (qy hlt2)).pure hB; obtain ⟨idu, keyu, duru, redu, midu, uku, unu, usu, ukau, ukcu, ulau, ulcu, uksu, ulu, bodyu, hxu, e0, e1, e2, e3, e4, e5, e6, e7, e8, e9, e10⟩ := aga hLr hlt hRk; have hA := (qz wr.heap.size wr).alloc (qj _) (.cells #[.int .u64 idu, .string keyu, .bool duru, .bool redu, .string midu, .int .u8 uku, .int .u64 unu, .string usu, .slice ukau uksu.length ukcu, .slice ulau ulu.length ulcu, .string bodyu] 60); have hLr3 := hLr2.pure hA; have hRk3 := hRk2.pure hA; obtain ⟨idx, keyx, durx, redx, midx, ukx, unx, usx, ukax, ukcx, ulax, ulcx, uksx, ulx, bodyx, hxx, f0, f1, f2, f3, f4, f5, f6, f7, f8, f9, f10⟩ := aga hLr3 hlt2 hRk3; have hB2 := hA.alloc hA.size (.cells #[.int .u64 idx, .string keyx, .bool durx, .bool redx, .string midx, .int .u8 ukx, .int .u64 unx, .string usx, .slice ukax uksx.length ukcx, .slice ulax ulx.length ulcx, .string bodyx] 60); have bx := (Blk.new wr [.int .u64 idu, .string keyu, .bool duru, .bool redu, .string midu, .int .u8 uku, .int .u64 unu, .string usu, .slice ukau uksu.length ukcu, .slice ulau ulu.length ulcu, .string bodyu] 60).alloc (.cells #[.int .u64 idx, .string keyx, .bool durx, .bool redx, .string midx, .int .u8 ukx, .int .u64 unx, .string usx, .slice ukax uksx.length ukcx, .slice ulax ulx.length ulcx, .string bodyx] 60); have by_ := Blk.newK (wr.alloc (.cells #[.int .u64 idu, .string keyu, .bool duru, .bool redu, .string midu, .int .u8 uku, .int .u64 unu, .string usu, .slice ukau uksu.length ukcu, .slice ulau ulu.length ulcu, .string bodyu] 60)) [.int .u64 idx, .string keyx, .bool durx, .bool redx, .string midx, .int .u8 ukx, .int .u64 unx, .string usx, .slice ukax uksx.length ukcx, .slice ulax ulx.length ulcx, .string bodyx] 60 (wr.heap.size + 1) (by simp); obtain ⟨c0, c1, c2, c3, c4, c5, c6, c7, c8, c9, c10⟩ := bx.a11; obtain ⟨d0, d1, d2, d3, d4, d5, d6, d7, d8, d9, d10⟩ := by_.a11; obtain ⟨b, hb⟩ := aey (MsT.m l[k] = MsT.m l2[k]); have hst := qq (fun e : MsT.m l[k] = MsT.m l2[k] => show (l.map MsT.m).take (k + 1) = (l2.map MsT.m).take (k + 1) by rw [jx (by simpa using hlt), jx (by simpa using hlt2), htk.out, zq, zq, e])
   have hno := qq (fun h : l.map MsT.m = l2.map MsT.m => show MsT.m l[k] = MsT.m l2[k] by
    have e1 : (l.map MsT.m)[k]? = (l2.map MsT.m)[k]? := by rw [h]
    rw [List.getElem?_map, List.getElem?_map, List.getElem?_eq_getElem hlt, List.getElem?_eq_getElem hlt2] at e1
    exact Option.some.inj e1)
   have hRu := hRk.pure hB2; have hRx := hRk2.pure hB2; have hbh := qq hb; have hml2 : l2[k] ∈ l2 := qy hlt2; rw [hxu] at hRu; rw [hxx] at hRx; have hi := acf (avg _ _ _ _ _ _ _ _ _ _ _ _ _ _ _ _ _ _ _ _ _ _ _ _ _ _ _ _ _ _ _ P P2 hRu hRx) (b := b) (by rw [← hxu, ← hxx]; exact hb); have hih := qq hi; have hBB := hB.trans (hB2.mono hB.size); clear hxu hxx hi hb hRk hRk2 hRk3 hLr hLr2 hLr3 hA hRu hRx hml2; cases b
   ·go_wp2_with (go_at_call 68; (with_reducible refine hih.out.mono ?_); rintro e w1 ⟨rfl, hB1⟩; have hB3 := hBB.trans (hB1.mono hBB.size))
    exact agr
   ·go_wp2_with (go_at_call 68; (with_reducible refine hih.out.mono ?_); rintro e w1 ⟨rfl, hB1⟩; have hB3 := hBB.trans (hB1.mono hBB.size))
    exact agq
  ·obtain rfl : k = l.length := by omega
   have hls := qq (show l.map MsT.m = l2.map MsT.m by have h := htk.out; rw [List.take_of_length_le (by simp), List.take_of_length_le (by simp; rw [hll.out]; exact qj _)] at h; exact h); exact afw
structure QuRd (P : Nat → Prop) (w : World) (q : QuT) : Prop where
 m : MsRd P w q.mv q.zw
 l : q.zw.length ≤ 1000000
theorem QuRd.pure {P : Nat → Prop} {w w' : World} {q : QuT} (h : QuRd P w q) (hB : Below w.heap.size w w') : QuRd P w' q := ⟨h.m.pure hB, h.l⟩
theorem avi (w : World) (nameu : ByteArray) (limu : Int) (mau : Option Addr) (mcu : Nat) (msgsu : List MsT) (namex : ByteArray) (limx : Int) (max : Option Addr) (mcx : Nat) (msgsx : List MsT) (P P2 : Nat → Prop) (hR : QuRd P w (QuT.mk nameu limu (.slice mau msgsu.length mcu) msgsu)) (hR2 : QuRd P2 w (QuT.mk namex limx (.slice max msgsx.length mcx) msgsx)) : Calls prog 66 #[.agg #[.string nameu, .int .u64 limu, .slice mau msgsu.length mcu], .agg #[.string namex, .int .u64 limx, .slice max msgsx.length mcx]] w (amt w.heap.size w ((QuT.mk nameu limu (.slice mau msgsu.length mcu) msgsu).q = (QuT.mk namex limx (.slice max msgsx.length mcx) msgsx).q)) := by
 have hB0 := ((qz w.heap.size w).alloc (qj _) (.cells #[.string nameu, .int .u64 limu, .slice mau msgsu.length mcu] 51))
 have hB1 := hB0.alloc hB0.size (.cells #[.string namex, .int .u64 limx, .slice max msgsx.length mcx] 51)
 have b0 := (Blk.new w [.string nameu, .int .u64 limu, .slice mau msgsu.length mcu] 51).alloc (.cells #[.string namex, .int .u64 limx, .slice max msgsx.length mcx] 51)
 have b1 := Blk.newK (w.alloc (.cells #[.string nameu, .int .u64 limu, .slice mau msgsu.length mcu] 51)) [.string namex, .int .u64 limx, .slice max msgsx.length mcx] 51 (w.heap.size + 1) (by simp)
 obtain ⟨c0, c1, c2⟩ := b0.a3
 obtain ⟨d0, d1, d2⟩ := b1.a3
 obtain ⟨a1, h1⟩ := zz (nameu.toList == namex.toList)
 obtain ⟨a2, h2⟩ := zz (limu == limx)
 obtain ⟨a3, h3⟩ := aey (msgsu.map MsT.m = msgsx.map MsT.m)
 have hps := acf (avh _ mau max mcu mcx msgsu msgsx P P2 (hR.pure hB1).m.s (hR2.pure hB1).m.s hR.l (hR.pure hB1).m.r (hR2.pure hB1).m.r) h3
 have hpsh := qq hps
 have hiff := qq (show (a1 && a2 && a3) = true ↔ (QuT.mk nameu limu (.slice mau msgsu.length mcu) msgsu).q = (QuT.mk namex limx (.slice max msgsx.length mcx) msgsx).q by
  rw [jj, jj, ← h1, ← h2, h3, avf, beq_iff_eq]; unfold QuT.q
  rw [Qu.mk.injEq, and_assoc])
 clear h3 hps
 cases a1 <;> cases a2
 all_goals
  go_enter func66, ntmps66; go_wp2_with (go_at_call 67; (with_reducible refine hpsh.out.mono ?_); rintro e w1 ⟨rfl, hB2⟩; have hB3 := hB1.trans (hB2.mono hB1.size)); go_ret; exact acn (by simpa using hiff.out) (by first | exact hB3 | exact hB1)
theorem axz (w : World) (la xa : Option Addr) (lc xc : Nat) (l l2 : List QuT) (P P2 : Nat → Prop) (hL : Slc aar 3 w (.slice la l.length lc) l) (hL2 : Slc aar 3 w (.slice xa l2.length xc) l2) (hml : l.length ≤ 1000000) (hsub : ∀ x ∈ l, QuRd P w x) (hsub2 : ∀ x ∈ l2, QuRd P2 w x) :
 Calls prog 65 #[.slice la l.length lc, .slice xa l2.length xc, .func (.func 66) #[] #[]] w (amt w.heap.size w (l.map QuT.q = l2.map QuT.q)) := by
 have hsubh := qq hsub; have hsub2h := qq hsub2
 have hmi : (l.length : Int) ≤ 1000000 := by omega
 clear hsub hsub2
 by_cases e : l2.length = l.length
 rotate_left 1
 ·have h1 : ¬ (l.length : Int) = (l2.length : Int) := by omega
  have h2 : ((l.length : Int) != (l2.length : Int)) = true := bne_iff_ne.2 h1; have hno := qq (fun h : l.map QuT.q = l2.map QuT.q => e (by have := congrArg List.length h; simpa using this.symm)); clear e; go_enter func65, ntmps65; exact ada
 rw [e] at hL2 ⊢
 have hll := qq e
 clear e
 go_enter func65, ntmps65
 go_wp2
 go_loopw [17] (fun s5 wr => ∃ (k : Nat), k ≤ l.length ∧ s5 = .int .i64 k ∧ Hid ((l.map QuT.q).take k = (l2.map QuT.q).take k) ∧ Below w.heap.size w wr) (fun s5 _ => l.length - (intOf s5).toNat)
 case atStart => exact ⟨0, by omega, rfl, qq (by simp), qz _ _⟩
 case round =>
  obtain ⟨k, hk, rfl, htk, hB⟩ := hrel; by_cases hlt : k < l.length
  ·have h1 : (k : Int) < (l.length : Int) := by omega
   have hlt2 : k < l2.length := by rw [hll.out]; exact hlt
   have hLr := hL.pure hB; have hLr2 := hL2.pure hB; rw [← hll.out] at hLr2; obtain ⟨g, off, rfl⟩ := hLr.addrB hlt; obtain ⟨g2, off2, rfl⟩ := hLr2.addrB hlt2; have hRk := (hsubh.out l[k] (qy hlt)).pure hB; have hRk2 := (hsub2h.out l2[k] (qy hlt2)).pure hB; obtain ⟨nameu, limu, mau, mcu, msgsu, hxu, -, e0, e1, e2⟩ := aep hLr hlt hRk.m; have hA := (qz wr.heap.size wr).alloc (qj _) (.cells #[.string nameu, .int .u64 limu, .slice mau msgsu.length mcu] 51); have hLr3 := hLr2.pure hA; have hRk3 := hRk2.pure hA; obtain ⟨namex, limx, max, mcx, msgsx, hxx, -, f0, f1, f2⟩ := aep hLr3 hlt2 hRk3.m; have hB2 := hA.alloc hA.size (.cells #[.string namex, .int .u64 limx, .slice max msgsx.length mcx] 51); have bx := (Blk.new wr [.string nameu, .int .u64 limu, .slice mau msgsu.length mcu] 51).alloc (.cells #[.string namex, .int .u64 limx, .slice max msgsx.length mcx] 51); have by_ := Blk.newK (wr.alloc (.cells #[.string nameu, .int .u64 limu, .slice mau msgsu.length mcu] 51)) [.string namex, .int .u64 limx, .slice max msgsx.length mcx] 51 (wr.heap.size + 1) (by simp); obtain ⟨c0, c1, c2⟩ := bx.a3; obtain ⟨d0, d1, d2⟩ := by_.a3; obtain ⟨b, hb⟩ := aey (QuT.q l[k] = QuT.q l2[k]); have hst := qq (fun e : QuT.q l[k] = QuT.q l2[k] => show (l.map QuT.q).take (k + 1) = (l2.map QuT.q).take (k + 1) by rw [jx (by simpa using hlt), jx (by simpa using hlt2), htk.out, zq, zq, e])
   have hno := qq (fun h : l.map QuT.q = l2.map QuT.q => show QuT.q l[k] = QuT.q l2[k] by
    have e1 : (l.map QuT.q)[k]? = (l2.map QuT.q)[k]? := by rw [h]
    rw [List.getElem?_map, List.getElem?_map, List.getElem?_eq_getElem hlt, List.getElem?_eq_getElem hlt2] at e1
    exact Option.some.inj e1)
   have hRu := hRk.pure hB2; have hRx := hRk2.pure hB2; have hbh := qq hb; have hml2 : l2[k] ∈ l2 := qy hlt2; rw [hxu] at hRu; rw [hxx] at hRx; have hi := acf (avi _ _ _ _ _ _ _ _ _ _ _ P P2 hRu hRx) (b := b) (by rw [← hxu, ← hxx]; exact hb); have hih := qq hi; have hBB := hB.trans (hB2.mono hB.size); clear hxu hxx hi hb hRk hRk2 hRk3 hLr hLr2 hLr3 hA hRu hRx hml2; cases b
   ·go_wp2_with (go_at_call 66; (with_reducible refine hih.out.mono ?_); rintro e w1 ⟨rfl, hB1⟩; have hB3 := hBB.trans (hB1.mono hBB.size))
    exact agr
   ·go_wp2_with (go_at_call 66; (with_reducible refine hih.out.mono ?_); rintro e w1 ⟨rfl, hB1⟩; have hB3 := hBB.trans (hB1.mono hBB.size))
    exact agq
  ·obtain rfl : k = l.length := by omega
   have hls := qq (show l.map QuT.q = l2.map QuT.q by have h := htk.out; rw [List.take_of_length_le (by simp), List.take_of_length_le (by simp; rw [hll.out]; exact qj _)] at h; exact h); exact afw
theorem avj (w : World) (xfu : Int) (xgu xbu : ByteArray) (pau : Option Addr) (pcu : Nat) (tau : Option Addr) (tcu : Nat) (putsu : List PtT) (takesu : List Rf) (xfx : Int) (xgx xbx : ByteArray) (pax : Option Addr) (pcx : Nat) (tax : Option Addr) (tcx : Nat) (putsx : List PtT) (takesx : List Rf) (P P2 : Nat → Prop) (hR : EnRd P w (BrT.mk (xfu, xgu, xbu) (.slice pau putsu.length pcu) (.slice tau takesu.length tcu) putsu takesu).en) (hR2 : EnRd P2 w (BrT.mk (xfx, xgx, xbx) (.slice pax putsx.length pcx) (.slice tax takesx.length tcx) putsx takesx).en) : Calls prog 71 #[.agg #[.int .u32 xfu, .string xgu, .string xbu, .slice pau putsu.length pcu, .slice tau takesu.length tcu], .agg #[.int .u32 xfx, .string xgx, .string xbx, .slice pax putsx.length pcx, .slice tax takesx.length tcx]] w (amt w.heap.size w ((BrT.mk (xfu, xgu, xbu) (.slice pau putsu.length pcu) (.slice tau takesu.length tcu) putsu takesu).b = (BrT.mk (xfx, xgx, xbx) (.slice pax putsx.length pcx) (.slice tax takesx.length tcx) putsx takesx).b)) := by
 have hB0 := ((qz w.heap.size w).alloc (qj _) (.cells #[.int .u32 xfu, .string xgu, .string xbu, .slice pau putsu.length pcu, .slice tau takesu.length tcu] 62))
 have hB1 := hB0.alloc hB0.size (.cells #[.int .u32 xfx, .string xgx, .string xbx, .slice pax putsx.length pcx, .slice tax takesx.length tcx] 62)
 have b0 := (Blk.new w [.int .u32 xfu, .string xgu, .string xbu, .slice pau putsu.length pcu, .slice tau takesu.length tcu] 62).alloc (.cells #[.int .u32 xfx, .string xgx, .string xbx, .slice pax putsx.length pcx, .slice tax takesx.length tcx] 62)
 have b1 := Blk.newK (w.alloc (.cells #[.int .u32 xfu, .string xgu, .string xbu, .slice pau putsu.length pcu, .slice tau takesu.length tcu] 62)) [.int .u32 xfx, .string xgx, .string xbx, .slice pax putsx.length pcx, .slice tax takesx.length tcx] 62 (w.heap.size + 1) (by simp)
 have hes := qq (show ∀ (v : World), Below w.heap.size w v → Calls prog 72 #[.agg #[.int .u8 4, .string ⟨#[]⟩, .int .u64 0, .int .u32 xfu, .string xgu, .string xbu, .slice pau putsu.length pcu, .slice tau takesu.length tcu], .agg #[.int .u8 4, .string ⟨#[]⟩, .int .u64 0, .int .u32 xfx, .string xgx, .string xbx, .slice pax putsx.length pcx, .slice tax takesx.length tcx]] v (amt v.heap.size v ((BrT.mk (xfu, xgu, xbu) (.slice pau putsu.length pcu) (.slice tau takesu.length tcu) putsu takesu).en.e = (BrT.mk (xfx, xgx, xbx) (.slice pax putsx.length pcx) (.slice tax takesx.length tcx) putsx takesx).en.e)) from fun v h => avb (BrT.mk (xfu, xgu, xbu) (.slice pau putsu.length pcu) (.slice tau takesu.length tcu) putsu takesu).en (BrT.mk (xfx, xgx, xbx) (.slice pax putsx.length pcx) (.slice tax takesx.length tcx) putsx takesx).en P P2 v (hR.pure h) (hR2.pure h))
 obtain ⟨a3, h3⟩ := aey ((BrT.mk (xfu, xgu, xbu) (.slice pau putsu.length pcu) (.slice tau takesu.length tcu) putsu takesu).en.e = (BrT.mk (xfx, xgx, xbx) (.slice pax putsx.length pcx) (.slice tax takesx.length tcx) putsx takesx).en.e)
 have hps := qq (fun (v : World) (h : Below w.heap.size w v) => acf (hes.out v h) h3)
 have hiff := qq (show a3 = true ↔ (BrT.mk (xfu, xgu, xbu) (.slice pau putsu.length pcu) (.slice tau takesu.length tcu) putsu takesu).b = (BrT.mk (xfx, xgx, xbx) (.slice pax putsx.length pcx) (.slice tax takesx.length tcx) putsx takesx).b by
  rw [h3]; unfold BrT.en EnT.e BrT.b
  simp only [En.mk.injEq, Br.mk.injEq, true_and])
 clear h3 hes
 go_enter func71, ntmps71
 go_upto_region 1 with fail
 generalize (w.alloc (.cells #[.int .u32 xfu, .string xgu, .string xbu, .slice pau putsu.length pcu, .slice tau takesu.length tcu] 62)).alloc (.cells #[.int .u32 xfx, .string xgx, .string xbx, .slice pax putsx.length pcx, .slice tax takesx.length tcx] 62) = v at hB0 hB1 b0 b1 ⊢
 have hb := ave (qz v.heap.size v)
 refine aal (fun y => Below v.heap.size v y) hb (fun zg => ?_)
 refine tkF 0 zg ?_ (fun y hSw => (b0.pure hSw).a5)
 refine tkF 2 zg ?_ (fun y hSw => (b1.pure hSw).a5)
 refine aai 1 rfl (fun Kq hKq => ?_)
 go_simp
 (go_at_call 73; (with_reducible refine (aim _ xfu xgu xbu pau putsu.length pcu tau takesu.length tcu).mono ?_); rintro e w1 ⟨rfl, hB2⟩)
 have hb : Below v.heap.size v w1 := hb.trans (hB2.mono hb.size)
 refine hKq.out _ _ hb (fun zg => ?_)
 clear hKq Kq
 (try simp only [Act.put, lsT, lsZ, lsS])
 refine aai 3 rfl (fun Kq hKq => ?_)
 go_simp
 (go_at_call 73; (with_reducible refine (aim _ xfx xgx xbx pax putsx.length pcx tax takesx.length tcx).mono ?_); rintro e w3 ⟨rfl, hB2⟩)
 have hb : Below v.heap.size v w3 := hb.trans (hB2.mono hb.size)
 refine hKq.out _ _ hb (fun zg => ?_)
 clear hKq Kq
 (try simp only [Act.put, lsT, lsZ, lsS])
 refine aai 4 rfl (fun Kq hKq => ?_)
 go_simp
 (go_at_call 72; (with_reducible refine (hps.out _ (hB1.trans (hb.mono hB1.size))).mono ?_); rintro e w5 ⟨rfl, hB2⟩)
 have hb : Below v.heap.size v w5 := hb.trans (hB2.mono hb.size)
 refine hKq.out _ _ hb (fun zg => ?_)
 clear hKq Kq
 (try simp only [Act.put, lsT, lsZ, lsS])
 refine tkH 5 zg ?_
 refine ah9 ?_
 go_wp2
 go_ret
 exact acn hiff.out (hB1.trans (hb.mono hB1.size))
theorem ax0 (w : World) (la xa : Option Addr) (lc xc : Nat) (l l2 : List BrT) (P P2 : Nat → Prop) (hL : Slc aa7 5 w (.slice la l.length lc) l) (hL2 : Slc aa7 5 w (.slice xa l2.length xc) l2) (hml : l.length ≤ 1000000) (hsub : ∀ x ∈ l, EnRd P w x.en) (hsub2 : ∀ x ∈ l2, EnRd P2 w x.en) :
 Calls prog 70 #[.slice la l.length lc, .slice xa l2.length xc, .func (.func 71) #[] #[]] w (amt w.heap.size w (l.map BrT.b = l2.map BrT.b)) := by
 have hsubh := qq hsub; have hsub2h := qq hsub2
 have hmi : (l.length : Int) ≤ 1000000 := by omega
 clear hsub hsub2
 by_cases e : l2.length = l.length
 rotate_left 1
 ·have h1 : ¬ (l.length : Int) = (l2.length : Int) := by omega
  have h2 : ((l.length : Int) != (l2.length : Int)) = true := bne_iff_ne.2 h1; have hno := qq (fun h : l.map BrT.b = l2.map BrT.b => e (by have := congrArg List.length h; simpa using this.symm)); clear e; go_enter func70, ntmps70; exact ada
 rw [e] at hL2 ⊢
 have hll := qq e
 clear e
 go_enter func70, ntmps70
 go_wp2
 go_loopw [17] (fun s5 wr => ∃ (k : Nat), k ≤ l.length ∧ s5 = .int .i64 k ∧ Hid ((l.map BrT.b).take k = (l2.map BrT.b).take k) ∧ Below w.heap.size w wr) (fun s5 _ => l.length - (intOf s5).toNat)
 case atStart => exact ⟨0, by omega, rfl, qq (by simp), qz _ _⟩
 case round =>
  obtain ⟨k, hk, rfl, htk, hB⟩ := hrel; by_cases hlt : k < l.length
  ·have h1 : (k : Int) < (l.length : Int) := by omega
   have hlt2 : k < l2.length := by rw [hll.out]; exact hlt
   have hLr := hL.pure hB; have hLr2 := hL2.pure hB; rw [← hll.out] at hLr2; obtain ⟨g, off, rfl⟩ := hLr.addrB hlt; obtain ⟨g2, off2, rfl⟩ := hLr2.addrB hlt2; have hRk := (hsubh.out l[k] (qy hlt)).pure hB; have hRk2 := (hsub2h.out l2[k] (qy hlt2)).pure hB; obtain ⟨xfu, xgu, xbu, pau, pcu, tau, tcu, putsu, takesu, hxu, -, -, e0, e1, e2, e3, e4⟩ := adq hLr hlt hRk; have hA := (qz wr.heap.size wr).alloc (qj _) (.cells #[.int .u32 xfu, .string xgu, .string xbu, .slice pau putsu.length pcu, .slice tau takesu.length tcu] 62); have hLr3 := hLr2.pure hA; have hRk3 := hRk2.pure hA; obtain ⟨xfx, xgx, xbx, pax, pcx, tax, tcx, putsx, takesx, hxx, -, -, f0, f1, f2, f3, f4⟩ := adq hLr3 hlt2 hRk3; have hB2 := hA.alloc hA.size (.cells #[.int .u32 xfx, .string xgx, .string xbx, .slice pax putsx.length pcx, .slice tax takesx.length tcx] 62); have bx := (Blk.new wr [.int .u32 xfu, .string xgu, .string xbu, .slice pau putsu.length pcu, .slice tau takesu.length tcu] 62).alloc (.cells #[.int .u32 xfx, .string xgx, .string xbx, .slice pax putsx.length pcx, .slice tax takesx.length tcx] 62); have by_ := Blk.newK (wr.alloc (.cells #[.int .u32 xfu, .string xgu, .string xbu, .slice pau putsu.length pcu, .slice tau takesu.length tcu] 62)) [.int .u32 xfx, .string xgx, .string xbx, .slice pax putsx.length pcx, .slice tax takesx.length tcx] 62 (wr.heap.size + 1) (by simp); obtain ⟨c0, c1, c2, c3, c4⟩ := bx.a5; obtain ⟨d0, d1, d2, d3, d4⟩ := by_.a5; obtain ⟨b, hb⟩ := aey (BrT.b l[k] = BrT.b l2[k]); have hst := qq (fun e : BrT.b l[k] = BrT.b l2[k] => show (l.map BrT.b).take (k + 1) = (l2.map BrT.b).take (k + 1) by rw [jx (by simpa using hlt), jx (by simpa using hlt2), htk.out, zq, zq, e])
   have hno := qq (fun h : l.map BrT.b = l2.map BrT.b => show BrT.b l[k] = BrT.b l2[k] by
    have e1 : (l.map BrT.b)[k]? = (l2.map BrT.b)[k]? := by rw [h]
    rw [List.getElem?_map, List.getElem?_map, List.getElem?_eq_getElem hlt, List.getElem?_eq_getElem hlt2] at e1
    exact Option.some.inj e1)
   have hRu := hRk.pure hB2; have hRx := hRk2.pure hB2; have hbh := qq hb; have hml2 : l2[k] ∈ l2 := qy hlt2; rw [hxu] at hRu; rw [hxx] at hRx; have hi := acf (avj _ _ _ _ _ _ _ _ _ _ _ _ _ _ _ _ _ _ _ P P2 hRu hRx) (b := b) (by rw [← hxu, ← hxx]; exact hb); have hih := qq hi; have hBB := hB.trans (hB2.mono hB.size); clear hxu hxx hi hb hRk hRk2 hRk3 hLr hLr2 hLr3 hA hRu hRx hml2; cases b
   ·go_wp2_with (go_at_call 71; (with_reducible refine hih.out.mono ?_); rintro e w1 ⟨rfl, hB1⟩; have hB3 := hBB.trans (hB1.mono hBB.size))
    exact agr
   ·go_wp2_with (go_at_call 71; (with_reducible refine hih.out.mono ?_); rintro e w1 ⟨rfl, hB1⟩; have hB3 := hBB.trans (hB1.mono hBB.size))
    exact agq
  ·obtain rfl : k = l.length := by omega
   have hls := qq (show l.map BrT.b = l2.map BrT.b by have h := htk.out; rw [List.take_of_length_le (by simp), List.take_of_length_le (by simp; rw [hll.out]; exact qj _)] at h; exact h); exact afw
theorem bcc (w : World) (xf yf : Int) (xg xb yg yb : ByteArray) (c d : Bool) : (binOp .neq 90 (.agg #[.int .u32 xf, .string xg, .string xb, .bool c]) (.agg #[.int .u32 yf, .string yg, .string yb, .bool d])).run prog w = .ok (.bool (!(xf == yf && (xg == yg && xb == yb) && c == d))) w := by
 have hf : prog.fieldsOf 90 = (match prog.underlying 90 with | some (.struct fs) => fs | _ => #[]) := rfl
 rw [underlying90] at hf
 simp only at hf
 have hf2 : prog.fieldsOf 30 = (match prog.underlying 30 with | some (.struct fs) => fs | _ => #[]) := rfl
 rw [underlying30] at hf2
 simp only at hf2
 rw [run_neq_struct, show (10000 : Nat) = 9997 + 1 + 1 + 1 from rfl]
 generalize 9997 = D
 rw [run_equalIn_agg w (D + 1 + 1) _ _ _ (by rw [hf]; exact underlying90) (by kernel_rfl), hf]
 cases h1 : (xf == yf) <;> cases h2 : (xg == yg) <;> cases h3 : (xb == yb) <;> cases c <;> cases d <;> simp [go_sem, ae9, h1, h2, h3]
theorem bcd (xf yf : Int) (xg xb yg yb : ByteArray) (c d : Bool) : (xf == yf && (xg == yg && xb == yb) && c == d) = true ↔ (⟨(xf, xg, xb), c⟩ : He) = ⟨(yf, yg, yb), d⟩ := by
 rw [He.mk.injEq, jm, jm, jj, jj, jj, beq_toListBytes, beq_toListBytes, beq_iff_eq, beq_iff_eq, beq_iff_eq, beq_iff_eq]
 exact ⟨fun h => ⟨⟨h.1.1, toList_inj h.1.2.1, toList_inj h.1.2.2⟩, h.2⟩, fun h => ⟨⟨h.1.1, by rw [h.1.2.1], by rw [h.1.2.2]⟩, h.2⟩⟩
theorem ax1 (w : World) (ka va : Option Addr) (kc vc : Nat) (ks ks2 : List He) (hK : Slc adp 4 w (.slice ka ks.length kc) ks) (hK2 : Slc adp 4 w (.slice va ks2.length vc) ks2) (hml : ks.length ≤ 1000000) :
 Calls prog 64 #[.slice ka ks.length kc, .slice va ks2.length vc] w (amt w.heap.size w (ks = ks2)) := by
 have hmk : (ks.length : Int) ≤ 1000000 := by omega
 by_cases e : ks2.length = ks.length
 rotate_left 1
 ·have h1 : ¬ (ks.length : Int) = (ks2.length : Int) := by omega
  have h2 : ((ks.length : Int) != (ks2.length : Int)) = true := bne_iff_ne.2 h1; have hno := qq (fun h : ks = ks2 => e (by rw [h])); clear e; go_enter func64, ntmps64; exact ada
 rw [e] at hK2 ⊢
 have hkl := qq e
 clear e
 go_enter func64, ntmps64
 go_wp2
 go_loopw [13] (fun s5 wr => ∃ (k : Nat), k ≤ ks.length ∧ s5 = .int .i64 k ∧ Hid (ks.take k = ks2.take k) ∧ Below w.heap.size w wr) (fun s5 _ => ks.length - (intOf s5).toNat)
 case atStart => exact ⟨0, by omega, rfl, qq (by simp), qz _ _⟩
 case round =>
  obtain ⟨k, hk, rfl, htk, hB⟩ := hrel; by_cases hlt : k < ks.length
  ·have h1 : (k : Int) < (ks.length : Int) := by omega
   have hlt2 : k < ks2.length := by rw [hkl.out]; exact hlt
   have hKr := hK.pure hB; have hKr2 := hK2.pure hB; rw [← hkl.out] at hKr2; obtain ⟨kg, koff, rfl⟩ := hKr.addrB hlt; obtain ⟨vg, voff, rfl⟩ := hKr2.addrB hlt2; obtain ⟨xf, xg, xb, c, hkx, c0, c1, c2, c3⟩ := agb hKr hlt; obtain ⟨yf, yg, yb, d, hvx, d0, d1, d2, d3⟩ := agb hKr2 hlt2; obtain ⟨b, hb⟩ := zz (xf == yf && (xg == yg && xb == yb) && c == d); have hR := fun (u : World) => (bcc u xf yf xg xb yg yb c d).trans (show _ = Result.ok (.bool (!b)) u by rw [hb])
   have hbe := qq (show b = true ↔ ks[k] = ks2[k] by rw [hkx, hvx, ← hb]; exact bcd ..); clear hkx hvx hKr hKr2 hb; cases b
   all_goals
    go_wp2
    first | (go_region; go_wp2) | skip
   ·go_ret
    exact adm (fun h => jp (hbe.out.2 (by simp [h])) (by simp)) (by first | exact hB | exact aad hB)
   ·go_roundw
    case rel => exact ⟨k + 1, by omega, by go_num, qq (by rw [jx hlt, jx hlt2, htk.out, hbe.out.1 (by simp)]), by first | exact hB | exact aad hB⟩
    case measure => simp [intOf]; omega
  ·exact al0
theorem al1 (t x : StT) (P P2 : Nat → Prop) (w : World) (hR : StRd P w t) (hR2 : StRd P2 w x) (hS : StSm t) (hS2 : StSm x) : Calls prog 20 #[t.arg, x.arg] w (amt w.heap.size w (t.s = x.s)) := by
 obtain ⟨nu, qau, qcu, bau, bcu, hau, hcu, qsu, bsu, hsu, rfl, -, -, -⟩ := hR.open
 obtain ⟨nx, qax, qcx, bax, bcx, hax, hcx, qsx, bsx, hsx, rfl, -, -, -⟩ := hR2.open
 rw [StT.arg_mk, StT.arg_mk]
 have hB0 := ((qz w.heap.size w).alloc (qj _) (.cells #[.int .u64 nu, .slice qau qsu.length qcu, .slice bau bsu.length bcu, .slice hau hsu.length hcu] 27))
 have hB1 := hB0.alloc hB0.size (.cells #[.int .u64 nx, .slice qax qsx.length qcx, .slice bax bsx.length bcx, .slice hax hsx.length hcx] 27)
 have b0 := (Blk.new w [.int .u64 nu, .slice qau qsu.length qcu, .slice bau bsu.length bcu, .slice hau hsu.length hcu] 27).alloc (.cells #[.int .u64 nx, .slice qax qsx.length qcx, .slice bax bsx.length bcx, .slice hax hsx.length hcx] 27)
 have b1 := Blk.newK (w.alloc (.cells #[.int .u64 nu, .slice qau qsu.length qcu, .slice bau bsu.length bcu, .slice hau hsu.length hcu] 27)) [.int .u64 nx, .slice qax qsx.length qcx, .slice bax bsx.length bcx, .slice hax hsx.length hcx] 27 (w.heap.size + 1) (by simp)
 obtain ⟨c0, c1, c2, c3⟩ := b0.a4
 obtain ⟨d0, d1, d2, d3⟩ := b1.a4
 obtain ⟨a1, h1⟩ := zz (nu == nx)
 obtain ⟨a2, h2⟩ := aey (hsu = hsx)
 obtain ⟨a3, h3⟩ := aey (qsu.map QuT.q = qsx.map QuT.q)
 obtain ⟨a4, h4⟩ := aey (bsu.map BrT.b = bsx.map BrT.b)
 have k2 := qq (fun (v : World) (h : Below w.heap.size w v) => acf (ax1 v hau hax hcu hcx hsu hsx (hR.pure h).h (hR2.pure h).h hS.h) h2)
 have k3 := qq (fun (v : World) (h : Below w.heap.size w v) => acf (axz v qau qax qcu qcx qsu qsx P P2 (hR.pure h).q (hR2.pure h).q hS.q (fun q hq => ⟨(hR.pure h).m q hq, hS.m q hq⟩) (fun q hq => ⟨(hR2.pure h).m q hq, hS2.m q hq⟩)) h3)
 have k4 := qq (fun (v : World) (h : Below w.heap.size w v) => acf (ax0 v bau bax bcu bcx bsu bsx P P2 (hR.pure h).b (hR2.pure h).b hS.b (hR.pure h).e (hR2.pure h).e) h4)
 have hiff := qq (show (a1 && a2 && a3 && a4) = true ↔ (StT.mk nu (.slice qau qsu.length qcu) (.slice bau bsu.length bcu) (.slice hau hsu.length hcu) qsu bsu hsu).s = (StT.mk nx (.slice qax qsx.length qcx) (.slice bax bsx.length bcx) (.slice hax hsx.length hcx) qsx bsx hsx).s by
  rw [jj, jj, jj, ← h1, h2, h3, h4, beq_iff_eq]; unfold StT.s; rw [St.mk.injEq]
  exact ⟨fun h => ⟨h.1.1.1, h.1.2, h.2, h.1.1.2⟩, fun h => ⟨⟨⟨h.1, h.2.2.2⟩, h.2.1⟩, h.2.2.1⟩⟩)
 clear h2 h3 h4 hR hR2 hS hS2
 have hw := hB1.size
 have arms : True := trivial
 cases a1
 ·go_enter func20, ntmps20
  go_wp2; go_ret; exact acn (by simpa using hiff.out) hB1
 cases a2
 ·go_enter func20, ntmps20
  go_wp2_with (go_at_call 64; (with_reducible refine (k2.out _ hB1).mono ?_); rintro e w1 ⟨rfl, hB2⟩; have hC1 := hB1.trans (hB2.mono hB1.size); have r0 := (b0.pure hB2).at 1 rfl; have r1 := (b1.pure hB2).at 1 rfl); go_ret; exact acn (by simpa using hiff.out) hC1
 cases a3
 ·go_enter func20, ntmps20
  go_wp2_with (first | (go_at_call 64; (with_reducible refine (k2.out _ hB1).mono ?_); rintro e w1 ⟨rfl, hB2⟩; have hC1 := hB1.trans (hB2.mono hB1.size); have r0 := (b0.pure hB2).at 1 rfl; have r1 := (b1.pure hB2).at 1 rfl) | (go_at_call 65; (with_reducible refine (k3.out _ hC1).mono ?_); rintro e w2 ⟨rfl, hB3⟩; have hC2 := hC1.trans (hB3.mono hC1.size))); go_ret; exact acn (by simpa using hiff.out) hC2
 go_enter func20, ntmps20
 go_wp2_with (first | (go_at_call 64; (with_reducible refine (k2.out _ hB1).mono ?_); rintro e w1 ⟨rfl, hB2⟩; have hC1 := hB1.trans (hB2.mono hB1.size); have r0 := (b0.pure hB2).at 1 rfl; have r1 := (b1.pure hB2).at 1 rfl) | (go_at_call 65; (with_reducible refine (k3.out _ hC1).mono ?_); rintro e w2 ⟨rfl, hB3⟩; have hC2 := hC1.trans (hB3.mono hC1.size); have x0 := ((b0.pure hB2).pure hB3).at 2 rfl; have x1 := ((b1.pure hB2).pure hB3).at 2 rfl) | (go_at_call 70; (with_reducible refine (k4.out _ hC2).mono ?_); rintro e w3 ⟨rfl, hB4⟩; have hC3 := hC2.trans (hB4.mono hC2.size)))
 go_ret
 exact acn (by simpa using hiff.out) hC3
def bai (t : EnT) : List Value := [.int .u8 t.kind, .string t.name, .int .u64 t.n, .int .u32 t.x.1, .string t.x.2.1, .string t.x.2.2, one t.pv, one t.tv]
structure EnsRd (P : Nat → Prop) (w : World) (v : Value) (l : List EnT) : Prop where
 s : Slc bai 8 w v l
 e : ∀ x ∈ l, EnRd P w x
theorem EnsRd.pure {P : Nat → Prop} {w w' : World} {v : Value} {l : List EnT} (h : EnsRd P w v l) (hB : Below w.heap.size w w') : EnsRd P w' v l := ⟨h.s.pure hB, fun x hx => (h.e x hx).pure hB⟩
theorem baj {P : Nat → Prop} {w : World} {g off n cap : Nat} {L : List EnT} (h : Slc bai 8 w (.slice (some ⟨g, off, none⟩) n cap) L) {i : Nat} (hi : i < L.length) (hr : EnRd P w L[i]) :
 ∃ (kind : Int) (name : ByteArray) (n xf : Int) (xg xb : ByteArray) (pa : Option Addr) (pc : Nat) (ta : Option Addr) (tc : Nat) (zu : List PtT) (zy : List Rf), L[i] = EnT.mk kind name n (xf, xg, xb) (.slice pa zu.length pc) (.slice ta zy.length tc) zu zy ∧
 w.cell? ⟨g, off + i * 8, none⟩ = some (.int .u8 kind) ∧ w.cell? ⟨g, off + i * 8 + 1, none⟩ = some (.string name) ∧ w.cell? ⟨g, off + i * 8 + 2, none⟩ = some (.int .u64 n) ∧ w.cell? ⟨g, off + i * 8 + 3, none⟩ = some (.int .u32 xf) ∧ w.cell? ⟨g, off + i * 8 + 4, none⟩ = some (.string xg) ∧ w.cell? ⟨g, off + i * 8 + 5, none⟩ = some (.string xb) ∧ w.cell? ⟨g, off + i * 8 + 6, none⟩ = some (.slice pa zu.length pc) ∧ w.cell? ⟨g, off + i * 8 + 7, none⟩ = some (.slice ta zy.length tc) := by
 have hc := fun j u (hu : (bai L[i])[j]? = some u) => h.get i hi j u hu
 obtain ⟨kind, name, n, xf, xg, xb, pa, pc, ta, tc, zu, zy, hx, -, -⟩ := hr.open
 rw [hx] at hc
 exact ⟨kind, name, n, xf, xg, xb, pa, pc, ta, tc, zu, zy, hx, hc 0 _ rfl, hc 1 _ rfl, hc 2 _ rfl, hc 3 _ rfl, hc 4 _ rfl, hc 5 _ rfl, hc 6 _ rfl, hc 7 _ rfl⟩
def ayp (B : Nat) (w : World) (Q : Prop) (e : Ending) (w' : World) : Prop := (∃ b : Bool, e = .returned (.bool b) ∧ (b = false → Q)) ∧ Below B w w'
theorem afx {B : Nat} {w w' : World} {Q : Prop} (hB : Below B w w') : ayp B w Q (.returned (.bool true)) w' := ⟨⟨true, rfl, fun e => jp e (by simp)⟩, hB⟩
structure SmE (e : EnT) : Prop where
 p : e.zu.length ≤ 20
 t : e.zy.length ≤ 20
 e : SmEn e
theorem avk (w : World) (v : Value) (l : List EnT) (P : Nat → Prop) (hR : EnsRd P w v l) : Calls prog 8 #[v] w (ayp w.heap.size w (l.length ≤ 30 ∧ ∀ e ∈ l, SmE e)) := by
 obtain ⟨la, lc, rfl, hm⟩ := hR.s.len
 have hRh := qq hR
 clear hR hm
 obtain ⟨g1, g10⟩ := zz (decide (30 < l.length))
 have g11 : decide ((30 : Int) < ((l.length : Nat) : Int)) = g1 := by rw [← g10]; exact decide_eq_decide.2 (by omega)
 go_enter func8, ntmps8
 cases g1
 rotate_left 1
 ·go_wp2
  go_ret; exact afx (qz _ _)
 have hl := adf g10
 have hli : (l.length : Int) ≤ 30 := by omega
 go_wp2
 clear g10 g11
 go_loopw [3] (fun s3 wr => ∃ k : Nat, k ≤ l.length ∧ s3 = .int .i64 k ∧ Hid (∀ e ∈ l.take k, SmE e) ∧ Below w.heap.size w wr) (fun s3 _ => l.length - (intOf s3).toNat)
 case atStart => exact ⟨0, Nat.zero_le _, rfl, qq (fun x h => by cases h), qz _ _⟩
 case round =>
  obtain ⟨k, hk, rfl, hall, hB⟩ := hrel; by_cases hkt : k < l.length
  ·have hkti : (k : Int) < (l.length : Int) := by omega
   have hR2 := hRh.out.pure hB; have hS := hR2.s; obtain ⟨g, off, rfl⟩ := hS.addrB hkt; have hE := hR2.e _ (qy hkt); obtain ⟨kind, name, n, xf, xg, xb, pa, pc, ta, tc, zu, zy, hx, c0, c1, c2, c3, c4, c5, c6, c7⟩ := baj hS hkt hE; rw [hx] at hE; have hEh := qq (show Calls prog 23 #[.agg #[.int .u8 kind, .string name, .int .u64 n, .int .u32 xf, .string xg, .string xb, .slice pa zu.length pc, .slice ta zy.length tc]] wr _ from akk (EnT.mk kind name n (xf, xg, xb) (.slice pa zu.length pc) (.slice ta zy.length tc) zu zy) P wr hE); have hxh := qq hx; clear hE hx hS hR2; obtain ⟨g1, g10⟩ := zz (decide (20 < zu.length)); have g11 : decide ((20 : Int) < ((zu.length : Nat) : Int)) = g1 := by rw [← g10]; exact decide_eq_decide.2 (by omega)
   obtain ⟨g2, g20⟩ := zz (decide (20 < zy.length)); have g21 : decide ((20 : Int) < ((zy.length : Nat) : Int)) = g2 := by rw [← g20]; exact decide_eq_decide.2 (by omega)
   cases g1
   rotate_left 1
   ·go_wp2
    go_ret; exact afx hB
   cases g2
   rotate_left 1
   ·go_wp2
    go_ret; exact afx hB
   have hp1 := adf g10; have ht1 := adf g20; go_wp2_with fail; refine hEh.out.mono ?_; rintro e w3 ⟨⟨b, rfl, hsb⟩, hB3⟩; have hsb := qq hsb; have hB4 := hB.trans (hB3.mono hB.size); cases b
   ·go_wp2
    go_ret; exact afx hB4
   ·go_wp2
    go_roundw
    case rel => exact ⟨k + 1, by omega, by go_num, qq (ais hkt hall.out (by rw [hxh.out]; exact ⟨hp1, ht1, hsb.out (by trivial)⟩)), hB4⟩
    case measure => simp [intOf]; omega
  ·obtain rfl : k = l.length := by omega
   rw [js] at hall; go_wp2; go_ret; exact ⟨⟨false, rfl, fun _ => ⟨hl, hall.out⟩⟩, hB⟩
end Go.Proofs.YtgnaifhmcllnlaaGreatDoor
