/- Entries: the document's CopyPuts. Condition: the zu are small. Written by gen_enU.py. (Texts joined.) -/
import Derived.Test.YtgnaifhmcllnlaaGreatDoorB11
set_option maxRecDepth 100000
set_option maxHeartbeats 6400000
set_option linter.unusedSimpArgs false
set_option linter.unusedVariables false
namespace Go.Proofs.YtgnaifhmcllnlaaGreatDoor
open Go.RowKit Tryz
theorem afd (hCk : ayk) {k : Int} (hKi : ad3 k) (w : World) (t : StT) (e : EnT) (P : Nat → Prop) (hR : StRd P w t) (hE : EnRd P w e) (hT : Tb w) (hS : StSm t) {s s' : St} {f : Int} (hs : t.s = s) (h : s.ap e.e = (s', f)) (hk : e.kind = k := by rfl) :
 Calls prog 12 #[t.arg, e.arg] w fun r w' => ∃ t' : StT, r = .returned (.tuple #[t'.arg, .int .i64 f]) ∧ t'.s = s' ∧ StOw w.heap.size w' t' ∧ Below w.heap.size w w' := by
 refine (an7 hCk hKi w t e P hR hE hT hS hk).mono ?_
 rintro r w' ⟨t', hr, hs', ho, hB⟩
 rw [hs, h] at hr hs'
 exact ⟨t', hr, hs', ho, hB⟩
def bd0 : StT := ⟨1, .slice none 0 0, .slice none 0 0, .slice none 0 0, [], [], []⟩
theorem bab (B : Nat) (w : World) : StOw B w bd0 :=
 ⟨Own.nil, Own.nil, Own.nil, fun q hq => (by cases hq), fun q hq => (by cases hq), fun q hq => (by cases hq), List.Pairwise.nil, List.Pairwise.nil, fun q hq => (by cases hq), fun q hq => (by cases hq), ⟨⟨by show (0 : Int) ≤ 1; omega, by show (1 : Int) < _; omega⟩, fun q hq => (by cases hq), fun q hq => (by cases hq), fun q hq => (by cases hq), fun q hq => (by cases hq), fun q hq => (by cases hq), fun q hq => (by cases hq)⟩⟩
theorem an8 {P : Nat → Prop} (w : World) (k n : Int) (nm : ByteArray) (x : Xn) (hk : 0 ≤ k ∧ k < 256) (hn : 0 ≤ n ∧ n < 18446744073709551616) (hx : 0 ≤ x.1 ∧ x.1 < 4294967296) : EnRd P w ⟨k, nm, n, x, .slice none 0 0, .slice none 0 0, [], []⟩ :=
 ⟨Own.nil.slc aae (base := 0) (e := 64), fun i e _ => jp e (by simp [Value.ownBlock]), fun y hy => (by cases hy), Own.nil.slc aa9 (base := 0) (e := 68), fun i e _ => jp e (by simp [Value.ownBlock]), ⟨hk.1, hk.2, hn.1, hn.2, hx.1, hx.2, fun p hp => (by cases hp), fun r hr => (by cases hr)⟩⟩
theorem bb8 {P : Nat → Prop} (w : World) (b : Nat) (p : PtT) (hb : Blk w b (aat p)) (hr : Rd (fun _ => True) w p.pr.app) (hi : 0 ≤ p.id ∧ p.id < 18446744073709551616) : EnRd (fun _ => True) w ⟨3, ⟨#[]⟩, 0, Xn.zero, .slice (some ⟨b, 0, none⟩) 1 1, .slice none 0 0, [p], []⟩ :=
 ⟨aik hb, fun _ _ _ => trivial, fun y hy => by rw [jc.1 hy]; exact hr, Own.nil.slc aa9 (base := 0) (e := 68), fun _ _ _ => trivial, ⟨by show (0 : Int) ≤ 3; omega, by show (3 : Int) < 256; omega, by show (0 : Int) ≤ 0; omega, by show (0 : Int) < _; omega, by show (0 : Int) ≤ 0; omega, by show (0 : Int) < _; omega, fun q hq => by
  obtain ⟨y, hy, rfl⟩ := jv.1 hq
  rw [jc.1 hy]; exact ⟨hi.1, hi.2, hr.wf⟩, fun r hr => (by cases hr)⟩⟩
theorem bac (w : World) (b : Nat) (x : Xn) (r : Rf) (hb : Blk w b (abc r)) (hx : 0 ≤ x.1 ∧ x.1 < 4294967296) (hi : 0 ≤ r.id ∧ r.id < 18446744073709551616) : EnRd (fun _ => True) w ⟨4, ⟨#[]⟩, 0, x, .slice none 0 0, .slice (some ⟨b, 0, none⟩) 1 1, [], [r]⟩ :=
 ⟨Own.nil.slc aae (base := 0) (e := 64), fun _ _ _ => trivial, fun y hy => (by cases hy), aik hb, fun _ _ _ => trivial, ⟨by show (0 : Int) ≤ 4; omega, by show (4 : Int) < 256; omega, by show (0 : Int) ≤ 0; omega, by show (0 : Int) < _; omega, hx.1, hx.2, fun q hq => (by cases hq), fun y hy => by rw [jc.1 hy]; exact hi⟩⟩
theorem alz {t : StT} {s : St} (h : t.s = s) (hq : s.qs.length ≤ 100) (hm : ∀ q ∈ s.qs, q.zw.length ≤ 100) (hb : s.zk.length ≤ 100) (hh : s.hs.length ≤ 100) : StSm t := by
 subst h
 refine ⟨?_, fun q hq' => ?_, ?_, ?_⟩
 ·have : (t.qs.map QuT.q).length ≤ 100 := hq
  rw [jf] at this; omega
 ·have := hm q.q (jw hq')
  have : (q.zw.map MsT.m).length ≤ 100 := this; rw [jf] at this; omega
 ·have : (t.zk.map BrT.b).length ≤ 100 := hb
  rw [jf] at this; omega
 ·have : t.hs.length ≤ 100 := hh
  omega
theorem ahc (hCk : ayk) (w : World) (hT : Tb w) : Calls prog 9 #[] w fun e w' => e = .returned (.bool true) ∧ Below w.heap.size w w' := by
 have hCkh := qq hCk; have hTh := qq hT
 have hr0 : Calls prog 12 #[.agg #[.int .u64 1, .slice none 0 0, .slice none 0 0, .slice none 0 0], .agg #[.int .u8 1, .string ⟨#[113]⟩, .int .u64 9, .int .u32 0, .string ⟨#[]⟩, .string ⟨#[]⟩, .slice none 0 0, .slice none 0 0]] w _ := afd hCk axy w bd0 ⟨1, hdQ, 9, Xn.zero, .slice none 0 0, .slice none 0 0, [], []⟩ _ (bab 0 w).rd (an8 w 1 9 hdQ Xn.zero (by omega) (by omega) (by decide)) hT (alz (s := hdS0) rfl (by decide) (by decide) (by decide) (by decide)) (s := hdS0) rfl hd0
 have h0 := qq hr0
 clear hr0
 clear hCk hT
 go_enter func9, ntmps9
 go_upto_region 2 with (go_at_call 12; (with_reducible refine h0.out.mono ?_); rintro e w1 ⟨t1, rfl, hz1, hO1, hB1⟩; obtain ⟨n1, qa1, qc1, ba1, bc1, ha1, hc1, qs1, brs1, hs1, rfl⟩ := hO1.open; rw [StT.arg_mk]; have ht1 := qq hz1; clear hz1)
 have hC1 := (qz w.heap.size w).trans (hB1.mono (((qz w.heap.size w)).size))
 have hal1 := (qz w1.heap.size w1).alloc (qj _) (.cells #[.int .u64 n1, .slice qa1 qs1.length qc1, .slice ba1 brs1.length bc1, .slice ha1 hs1.length hc1] 27)
 have S1 := Blk.new w1 [.int .u64 n1, .slice qa1 qs1.length qc1, .slice ba1 brs1.length bc1, .slice ha1 hs1.length hc1] 27
 have D1 := hC1.trans (hal1.mono hC1.size)
 have O1 := hO1.upd (Upd.of_below (S := fun _ => False) hal1) (fun _ e => e.elim)
 obtain ⟨u1, hu1⟩ := zj (w1.alloc (.cells #[.int .u64 n1, .slice qa1 qs1.length qc1, .slice ba1 brs1.length bc1, .slice ha1 hs1.length hc1] 27))
 rw [← hu1] at S1 D1 O1 ⊢
 clear hu1 hal1 hC1 hO1 hB1
 have hal2a := (qz u1.heap.size u1).alloc (qj _) (.cells #[.string ⟨#[113]⟩, .int .u64 1, .string ⟨#[]⟩, .bool false, .bool false, .string ⟨#[]⟩, .int .u8 0, .int .u64 0, .string ⟨#[]⟩, .slice none 0 0, .slice none 0 0, .string ⟨#[97]⟩] 64)
 have E2 := D1.trans (hal2a.mono D1.size)
 have hr2 : Calls prog 12 #[.agg #[.int .u64 n1, .slice qa1 qs1.length qc1, .slice ba1 brs1.length bc1, .slice ha1 hs1.length hc1], .agg #[.int .u8 3, .string ⟨#[]⟩, .int .u64 0, .int .u32 0, .string ⟨#[]⟩, .string ⟨#[]⟩, .slice (some ⟨u1.heap.size, 0, none⟩) 1 1, .slice none 0 0]] (u1.alloc (.cells #[.string ⟨#[113]⟩, .int .u64 1, .string ⟨#[]⟩, .bool false, .bool false, .string ⟨#[]⟩, .int .u8 0, .int .u64 0, .string ⟨#[]⟩, .slice none 0 0, .slice none 0 0, .string ⟨#[97]⟩] 64)) _ := afd hCkh.out bb6 (u1.alloc (.cells #[.string ⟨#[113]⟩, .int .u64 1, .string ⟨#[]⟩, .bool false, .bool false, .string ⟨#[]⟩, .int .u8 0, .int .u64 0, .string ⟨#[]⟩, .slice none 0 0, .slice none 0 0, .string ⟨#[97]⟩] 64)) (StT.mk n1 (.slice qa1 qs1.length qc1) (.slice ba1 brs1.length bc1) (.slice ha1 hs1.length hc1) qs1 brs1 hs1) ⟨3, ⟨#[]⟩, 0, Xn.zero, .slice (some ⟨u1.heap.size, 0, none⟩) 1 1, .slice none 0 0, [⟨hdQ, 1, ⟨⟨#[]⟩, false, false, ⟨#[]⟩, VT.zero⟩, ⟨#[97]⟩⟩], []⟩ _ ((O1.rd.pure hal2a).weaken (fun _ _ => trivial)) (bb8 (P := fun _ => True) (u1.alloc (.cells #[.string ⟨#[113]⟩, .int .u64 1, .string ⟨#[]⟩, .bool false, .bool false, .string ⟨#[]⟩, .int .u8 0, .int .u64 0, .string ⟨#[]⟩, .slice none 0 0, .slice none 0 0, .string ⟨#[97]⟩] 64)) u1.heap.size ⟨hdQ, 1, ⟨⟨#[]⟩, false, false, ⟨#[]⟩, VT.zero⟩, ⟨#[97]⟩⟩ (Blk.new u1 [.string ⟨#[113]⟩, .int .u64 1, .string ⟨#[]⟩, .bool false, .bool false, .string ⟨#[]⟩, .int .u8 0, .int .u64 0, .string ⟨#[]⟩, .slice none 0 0, .slice none 0 0, .string ⟨#[97]⟩] 64) VT.zero_rd (by decide)) (hTh.out.pure E2) (alz ht1.out (by decide) (by decide) (by decide) (by decide)) ht1.out hd1
 have h2 := qq hr2
 clear hr2
 obtain ⟨s0, s1, s2, s3⟩ := S1.a4
 go_upto_region 3 with (go_at_call 12; (with_reducible refine h2.out.mono ?_); rintro e w2 ⟨t2, rfl, hz2, hO2, hB2⟩; obtain ⟨n2, qa2, qc2, ba2, bc2, ha2, hc2, qs2, brs2, hs2, rfl⟩ := hO2.open; rw [StT.arg_mk]; have ht2 := qq hz2; clear hz2)
 clear s0 s1 s2 s3 h2
 have hC2 := E2.trans (hB2.mono ((E2).size))
 have hal2 := (qz w2.heap.size w2).alloc (qj _) (.cells #[.int .u64 n2, .slice qa2 qs2.length qc2, .slice ba2 brs2.length bc2, .slice ha2 hs2.length hc2] 27)
 have S2 := Blk.new w2 [.int .u64 n2, .slice qa2 qs2.length qc2, .slice ba2 brs2.length bc2, .slice ha2 hs2.length hc2] 27
 have D2 := hC2.trans (hal2.mono hC2.size)
 have O2 := hO2.upd (Upd.of_below (S := fun _ => False) hal2) (fun _ e => e.elim)
 obtain ⟨u2, hu2⟩ := zj (w2.alloc (.cells #[.int .u64 n2, .slice qa2 qs2.length qc2, .slice ba2 brs2.length bc2, .slice ha2 hs2.length hc2] 27))
 rw [← hu2] at S2 D2 O2 ⊢
 clear hu2 hal2 hC2 hO2 hB2
 have hal3a := (qz u2.heap.size u2).alloc (qj _) (.cells #[.string ⟨#[113]⟩, .int .u64 1] 68)
 have E3 := D2.trans (hal3a.mono D2.size)
 have hr3 : Calls prog 12 #[.agg #[.int .u64 n2, .slice qa2 qs2.length qc2, .slice ba2 brs2.length bc2, .slice ha2 hs2.length hc2], .agg #[.int .u8 4, .string ⟨#[]⟩, .int .u64 0, .int .u32 0, .string ⟨#[120]⟩, .string ⟨#[]⟩, .slice none 0 0, .slice (some ⟨u2.heap.size, 0, none⟩) 1 1]] (u2.alloc (.cells #[.string ⟨#[113]⟩, .int .u64 1] 68)) _ := afd hCkh.out au7 (u2.alloc (.cells #[.string ⟨#[113]⟩, .int .u64 1] 68)) (StT.mk n2 (.slice qa2 qs2.length qc2) (.slice ba2 brs2.length bc2) (.slice ha2 hs2.length hc2) qs2 brs2 hs2) ⟨4, ⟨#[]⟩, 0, hdX, .slice none 0 0, .slice (some ⟨u2.heap.size, 0, none⟩) 1 1, [], [⟨hdQ, 1⟩]⟩ _ ((O2.rd.pure hal3a).weaken (fun _ _ => trivial)) (bac (u2.alloc (.cells #[.string ⟨#[113]⟩, .int .u64 1] 68)) u2.heap.size hdX ⟨hdQ, 1⟩ (Blk.new u2 [.string ⟨#[113]⟩, .int .u64 1] 68) (by decide) (by decide)) (hTh.out.pure E3) (alz ht2.out (by decide) (by decide) (by decide) (by decide)) ht2.out hd2
 have h3 := qq hr3
 clear hr3
 obtain ⟨s0, s1, s2, s3⟩ := S2.a4
 go_upto_region 4 with (go_at_call 12; (with_reducible refine h3.out.mono ?_); rintro e w3 ⟨t3, rfl, hz3, hO3, hB3⟩; obtain ⟨n3, qa3, qc3, ba3, bc3, ha3, hc3, qs3, brs3, hs3, rfl⟩ := hO3.open; rw [StT.arg_mk]; have ht3 := qq hz3; clear hz3)
 clear s0 s1 s2 s3 h3
 have S2 := (S2.pure hal3a).pure hB3
 have hC3 := E3.trans (hB3.mono ((E3).size))
 have hal3 := (qz w3.heap.size w3).alloc (qj _) (.cells #[.int .u64 n3, .slice qa3 qs3.length qc3, .slice ba3 brs3.length bc3, .slice ha3 hs3.length hc3] 27)
 have S3 := Blk.new w3 [.int .u64 n3, .slice qa3 qs3.length qc3, .slice ba3 brs3.length bc3, .slice ha3 hs3.length hc3] 27
 have D3 := hC3.trans (hal3.mono hC3.size)
 have O3 := hO3.upd (Upd.of_below (S := fun _ => False) hal3) (fun _ e => e.elim)
 obtain ⟨u3, hu3⟩ := zj (w3.alloc (.cells #[.int .u64 n3, .slice qa3 qs3.length qc3, .slice ba3 brs3.length bc3, .slice ha3 hs3.length hc3] 27))
 have S2 := S2.pure hal3
 rw [← hu3] at S3 D3 O3 S2 ⊢
 clear hu3 hal3 hC3 hO3 hB3
 have hr4 : Calls prog 12 #[.agg #[.int .u64 n3, .slice qa3 qs3.length qc3, .slice ba3 brs3.length bc3, .slice ha3 hs3.length hc3], .agg #[.int .u8 2, .string ⟨#[113]⟩, .int .u64 0, .int .u32 0, .string ⟨#[]⟩, .string ⟨#[]⟩, .slice none 0 0, .slice none 0 0]] u3 _ := afd hCkh.out baa u3 (StT.mk n3 (.slice qa3 qs3.length qc3) (.slice ba3 brs3.length bc3) (.slice ha3 hs3.length hc3) qs3 brs3 hs3) ⟨2, hdQ, 0, Xn.zero, .slice none 0 0, .slice none 0 0, [], []⟩ _ O3.rd (an8 u3 2 0 hdQ Xn.zero (by omega) (by omega) (by decide)) (hTh.out.pure D3) (alz ht3.out (by decide) (by decide) (by decide) (by decide)) ht3.out (show hdS3.ap hdE3 = ((hdS3.ap hdE3).1, 9) from Prod.ext rfl hd3)
 have h4 := qq hr4
 clear hr4
 obtain ⟨s0, s1, s2, s3⟩ := S3.a4
 go_upto_region 5 with (go_at_call 12; (with_reducible refine h4.out.mono ?_); rintro e w4 ⟨t4, rfl, hz4, hO4, hB4⟩; obtain ⟨n4, qa4, qc4, ba4, bc4, ha4, hc4, qs4, brs4, hs4, rfl⟩ := hO4.open; rw [StT.arg_mk]; have ht4 := qq hz4; clear hz4)
 clear s0 s1 s2 s3 h4
 have S2 := S2.pure hB4; have S3 := S3.pure hB4; have O3 := O3.upd (Upd.of_below (S := fun _ => False) hB4) (fun _ e => e.elim)
 have hC4 := D3.trans (hB4.mono ((D3).size))
 have hal4 := (qz w4.heap.size w4).alloc (qj _) (.cells #[.int .u64 n4, .slice qa4 qs4.length qc4, .slice ba4 brs4.length bc4, .slice ha4 hs4.length hc4] 27)
 have S4 := Blk.new w4 [.int .u64 n4, .slice qa4 qs4.length qc4, .slice ba4 brs4.length bc4, .slice ha4 hs4.length hc4] 27
 have D4 := hC4.trans (hal4.mono hC4.size)
 have O4 := hO4.upd (Upd.of_below (S := fun _ => False) hal4) (fun _ e => e.elim)
 obtain ⟨u4, hu4⟩ := zj (w4.alloc (.cells #[.int .u64 n4, .slice qa4 qs4.length qc4, .slice ba4 brs4.length bc4, .slice ha4 hs4.length hc4] 27))
 have S2 := S2.pure hal4; have S3 := S3.pure hal4; have O3 := O3.upd (Upd.of_below (S := fun _ => False) hal4) (fun _ e => e.elim)
 rw [← hu4] at S4 D4 O4 S2 S3 O3 ⊢
 clear hu4 hal4 hC4 hO4 hB4
 have hr5 : Calls prog 12 #[.agg #[.int .u64 n3, .slice qa3 qs3.length qc3, .slice ba3 brs3.length bc3, .slice ha3 hs3.length hc3], .agg #[.int .u8 6, .string ⟨#[]⟩, .int .u64 0, .int .u32 0, .string ⟨#[120]⟩, .string ⟨#[]⟩, .slice none 0 0, .slice none 0 0]] u4 _ := afd hCkh.out au8 u4 (StT.mk n3 (.slice qa3 qs3.length qc3) (.slice ba3 brs3.length bc3) (.slice ha3 hs3.length hc3) qs3 brs3 hs3) ⟨6, ⟨#[]⟩, 0, hdX, .slice none 0 0, .slice none 0 0, [], []⟩ _ O3.rd (an8 u4 6 0 ⟨#[]⟩ hdX (by omega) (by omega) (by decide)) (hTh.out.pure D4) (alz ht3.out (by decide) (by decide) (by decide) (by decide)) ht3.out hd4
 have h5 := qq hr5
 clear hr5
 obtain ⟨s0, s1, s2, s3⟩ := S3.a4
 go_upto_region 6 with (go_at_call 12; (with_reducible refine h5.out.mono ?_); rintro e w5 ⟨t5, rfl, hz5, hO5, hB5⟩; obtain ⟨n5, qa5, qc5, ba5, bc5, ha5, hc5, qs5, brs5, hs5, rfl⟩ := hO5.open; rw [StT.arg_mk]; have ht5 := qq hz5; clear hz5)
 clear s0 s1 s2 s3 h5
 have S2 := S2.pure hB5
 have hC5 := D4.trans (hB5.mono ((D4).size))
 have hal5 := (qz w5.heap.size w5).alloc (qj _) (.cells #[.int .u64 n5, .slice qa5 qs5.length qc5, .slice ba5 brs5.length bc5, .slice ha5 hs5.length hc5] 27)
 have S5 := Blk.new w5 [.int .u64 n5, .slice qa5 qs5.length qc5, .slice ba5 brs5.length bc5, .slice ha5 hs5.length hc5] 27
 have D5 := hC5.trans (hal5.mono hC5.size)
 have O5 := hO5.upd (Upd.of_below (S := fun _ => False) hal5) (fun _ e => e.elim)
 obtain ⟨u5, hu5⟩ := zj (w5.alloc (.cells #[.int .u64 n5, .slice qa5 qs5.length qc5, .slice ba5 brs5.length bc5, .slice ha5 hs5.length hc5] 27))
 have S2 := S2.pure hal5
 rw [← hu5] at S5 D5 O5 S2 ⊢
 clear hu5 hal5 hC5 hO5 hB5
 obtain rfl : n2 = 2 := congrArg St.next ht2.out
 have e5 : qs5.map QuT.q = (hdS2 true).qs := congrArg St.qs ht5.out
 obtain ⟨q5, rfl⟩ : ∃ q, qs5 = [q] := by
  cases qs5 with
  | nil => simp at e5
  | cons q l => cases l with
   | nil => exact ⟨q, rfl⟩
   | cons => simp at e5
 have e6 : brs5.map BrT.b = [] := congrArg St.zk ht5.out
 obtain rfl : brs5 = [] := List.map_eq_nil_iff.1 e6
 have e7 : q5.zw.map MsT.m = [⟨1, hdP true, ⟨#[97]⟩⟩] := congrArg Qu.zw (List.cons.inj e5).1
 obtain ⟨m5, hm5⟩ : ∃ m, q5.zw = [m] := by
  rcases hq5 : q5.zw with _ | ⟨m, l⟩
  ·rw [hq5] at e7; simp at e7
  ·cases l with
   | nil => exact ⟨m, rfl⟩
   | cons => rw [hq5] at e7; simp at e7
 rw [hm5] at e7
 have e8 : m5.pr.red = true := congrArg (fun x => x.pr.red) (List.cons.inj e7).1
 obtain ⟨gq, rfl, -⟩ := abr O5.q (show 0 < [q5].length from Nat.zero_lt_one)
 have hmm := O5.m q5 (jc.2 rfl)
 obtain ⟨ma, mc, hmv, -⟩ : ∃ a c, q5.mv = .slice a q5.zw.length c ∧ q5.zw.length ≤ maxLen := (hmm.slc aac).len
 obtain ⟨gm, rfl, -⟩ := abr (hmv ▸ hmm) (show 0 < q5.zw.length by rw [hm5]; exact Nat.zero_lt_one)
 have d2 : u5.cell? ⟨gq, 2, none⟩ = some (.slice (some ⟨gm, 0, none⟩) 1 mc) := O5.q.cell aaf 0 (show 0 < [q5].length from Nat.zero_lt_one) 2 _ (by show some (one q5.mv) = _; rw [hmv, hm5]; rfl)
 have g3 : u5.cell? ⟨gm, 3, none⟩ = some (.bool true) := by
  have h := Own.cell aac (hmv ▸ hmm) 0 (show 0 < q5.zw.length by rw [hm5]; exact Nat.zero_lt_one) 3 (.bool true) (by simp only [hm5]; show some (Value.bool m5.pr.red) = _; rw [e8])
  simpa using h
 have s0 := S2.at 0 rfl
 have y1 := S5.at 1 rfl; have y2 := S5.at 2 rfl
 clear e5 e6 e7 e8 hm5 hmv hmm
 go_wp2
 go_ret
 exact ⟨rfl, D5⟩
theorem OwL.upd {α : Type} {e m : Nat} {enc : α → List Value} {app : α → VT} {B : Nat} {S : Nat → Prop} {w w' : World} {v : Value} {L : List α} (h : OwL e m enc app B w v L) (hu : Upd S w w') (hS : ∀ i, B ≤ i → i < w.heap.size → ¬ S i) : OwL e m enc app B w' v L :=
 ⟨h.o.upd hu (fun k hk e => hS k (h.o.ge hk) (h.o.lt hk) e), fun x hx => ((h.r x hx).lt.upd hu (fun i hi e => hS i hi.1.1 hi.2 e)).weaken (fun i _ hi => hi.1)⟩
theorem OwL.app {α : Type} {e m : Nat} {enc : α → List Value} {app : α → VT} {B : Nat} {w w' : World} {v : Value} {L : List α} {g cap : Nat} {x : α} (h : OwL e m enc app B w v L) (hO : Own B e m enc w' (.slice (some ⟨g, 0, none⟩) (L.length + 1) cap) (L ++ [x])) (hg : w.grownBy w' v.ownBlock) (hf : v.ownBlock = some g ∨ g = w.heap.size)
 (hx : Rd (fun i => B ≤ i ∧ v.ownBlock ≠ some i) w (app x)) : OwL e m enc app B w' (.slice (some ⟨g, 0, none⟩) (L.length + 1) cap) (L ++ [x]) := by
 have hu : Upd (fun i => v.ownBlock = some i) w w' := Upd.grown hg (fun i e => e)
 have hrd : ∀ y : VT, Rd (fun i => B ≤ i ∧ v.ownBlock ≠ some i) w y → Rd (fun i => B ≤ i ∧ Value.ownBlock (.slice (some ⟨g, 0, none⟩) (L.length + 1) cap) ≠ some i) w' y := fun y hy =>
  (hy.lt.upd hu (fun i hi e => hi.1.2 e)).weaken (fun i _ hi => ⟨hi.1.1, fun e => by
   have e : g = i := by simpa [Value.ownBlock] using e
   rcases hf with hf | hf
   ·exact hi.1.2 (by rw [hf, e])
   ·have := hi.2; omega⟩)
 refine ⟨hO, fun y hy => ?_⟩
 rcases List.mem_append.1 hy with hy | hy
 ·exact hrd _ (h.r y hy)
 ·rw [jc.1 hy]; exact hrd _ hx
structure Cp {α β : Type} (T n : Nat) (enc : α → List Value) (sv : α → Value) (sl : α → List β) (T2 n2 : Nat) (enc2 : β → List Value) (app : β → VT) (B : Nat) (w : World) (v : Value) (D : List α) : Prop where
 o : Own B T n enc w v D
 s : ∀ a ∈ D, Own B T2 n2 enc2 w (sv a) (sl a)
 d : D.Pairwise (fun a b => ∀ i, (sv a).ownBlock = some i → (sv b).ownBlock ≠ some i)
 r : ∀ a ∈ D, ∀ x ∈ sl a, Rd (fun i => B ≤ i ∧ v.ownBlock ≠ some i ∧ ∀ a' ∈ D, (sv a').ownBlock ≠ some i) w (app x)
section
variable {α β : Type} {T n : Nat} {enc : α → List Value} {sv : α → Value} {sl : α → List β} {T2 n2 : Nat} {enc2 : β → List Value} {app : β → VT} {B : Nat} {w w' : World} {v : Value} {D : List α}
theorem Cp.nil (B : Nat) (w : World) : Cp T n enc sv sl T2 n2 enc2 app B w (.slice none 0 0) ([] : List α) := ⟨Own.nil, fun a h => (by cases h), List.Pairwise.nil, fun a h => (by cases h)⟩
theorem Cp.upd {S : Nat → Prop} (h : Cp T n enc sv sl T2 n2 enc2 app B w v D) (hu : Upd S w w') (hS : ∀ i, S i → i < B ∨ w.heap.size ≤ i) : Cp T n enc sv sl T2 n2 enc2 app B w' v D :=
 ⟨h.o.upd hu (fun k hk e => by have h1 := h.o.ge hk; have h2 := h.o.lt hk; rcases hS k e with h | h <;> omega), fun a ha => (h.s a ha).upd hu (fun k hk e => by have h1 := (h.s a ha).ge hk; have h2 := (h.s a ha).lt hk; rcases hS k e with h | h <;> omega), h.d,
  fun a ha x hx => ((h.r a ha x hx).lt.upd hu (fun i hi e => by have h1 := hi.1.1; have h2 := hi.2; rcases hS i e with h | h <;> omega)).weaken (fun i _ hi => hi.1)⟩
theorem Cp.pure (h : Cp T n enc sv sl T2 n2 enc2 app B w v D) (hB : Below w.heap.size w w') : Cp T n enc sv sl T2 n2 enc2 app B w' v D := h.upd (Upd.of_below (S := fun _ => False) hB) (fun _ e => e.elim)
theorem Cp.add {w0 : World} {g cap : Nat} {x : α} (h : Cp T n enc sv sl T2 n2 enc2 app B w0 v D) (hB0 : B ≤ w0.heap.size) (hB : Below w0.heap.size w0 w) (hne : T ≠ T2) (hx : OwL T2 n2 enc2 app w0.heap.size w (sv x) (sl x))
 (hO : Own B T n enc w' (.slice (some ⟨g, 0, none⟩) (D.length + 1) cap) (D ++ [x])) (hg : w.grownBy w' v.ownBlock) (hf : v.ownBlock = some g ∨ g = w.heap.size) : Cp T n enc sv sl T2 n2 enc2 app B w' (.slice (some ⟨g, 0, none⟩) (D.length + 1) cap) (D ++ [x]) := by
 have hw := h.pure hB
 have hu : Upd (fun i => v.ownBlock = some i) w w' := Upd.grown hg (fun i e => e)
 have hgi : ∀ i, Value.ownBlock (.slice (some ⟨g, 0, none⟩) (D.length + 1) cap) = some i → v.ownBlock = some i ∨ i = w.heap.size := fun i e => by
  have e : g = i := by simpa [Value.ownBlock] using e
  rw [← e]; exact hf
 have hsz := hB.size
 have hvl : ∀ i, v.ownBlock = some i → i < w0.heap.size := fun i e => h.o.lt e
 refine ⟨hO, fun a ha => ?_, List.pairwise_append.2 ⟨h.d, List.pairwise_singleton _ _, fun a ha b hb i e1 e2 => ?_⟩, fun a ha y hy => ?_⟩
 ·rcases List.mem_append.1 ha with ha | ha
  ·exact (hw.s a ha).upd hu (fun k hk e => aaz hw.o (hw.s a ha) hne e hk)
  ·rw [jc.1 ha]
   exact (hx.o.rebase (fun k e => jk hB0 (hx.o.ge e))).upd hu (fun k hk e => by have := hvl k e; have := hx.o.ge hk; omega)
 ·rw [jc.1 hb] at e2
  have := (h.s a ha).lt e1; have := hx.o.ge e2; omega
 ·rcases List.mem_append.1 ha with ha | ha
  ·refine (((h.r a ha y hy).lt.pure hB).upd hu (fun i hi e => hi.1.2.1 e)).weaken (fun i _ hi => ⟨hi.1.1, fun e => ?_, fun a' ha' e => ?_⟩)
   ·rcases hgi i e with e | e
    ·exact hi.1.2.1 e
    ·have := hi.2; omega
   ·rcases List.mem_append.1 ha' with ha' | ha'
    ·exact hi.1.2.2 a' ha' e
    ·rw [jc.1 ha'] at e
     have := hx.o.ge e; have := hi.2; omega
  ·rw [jc.1 ha] at hy
   refine ((hx.r y hy).lt.upd hu (fun i hi e => by have := hvl i e; have := hi.1.1; omega)).weaken (fun i _ hi => ⟨jk hB0 hi.1.1, fun e => ?_, fun a' ha' e => ?_⟩)
   ·rcases hgi i e with e | e
    ·have := hvl i e; have := hi.1.1; omega
    ·have := hi.2; omega
   ·rcases List.mem_append.1 ha' with ha' | ha'
    ·have := (h.s a' ha').lt e; have := hi.1.1; omega
    ·rw [jc.1 ha'] at e
     exact hi.1.2 e
end
abbrev CpQ := Cp (α := QuT) (β := MsT) 51 3 aar QuT.mv QuT.zw 60 11 abl (fun x => x.pr.app)
abbrev CpB := Cp (α := BrT) (β := PtT) 62 5 aa7 BrT.pv BrT.zu 64 12 aat (fun x => x.pr.app)
theorem StOw.of_cp {B : Nat} {w1 w2 w3 : World} {t : StT} (hq : CpQ B w1 t.qv t.qs) (h12 : Upd (fun i => i < B) w1 w2) (hb : CpB w1.heap.size w2 t.bv t.zk) (ht : ∀ b ∈ t.zk, Own w1.heap.size 68 2 abc w2 b.tv b.zy) (h23 : Upd (fun i => i < B) w2 w3) (hh : Own w2.heap.size 90 4 adp w3 t.hv t.hs) (hB : B ≤ w1.heap.size) (wf : StWf t) : StOw B w3 t := by
 have s12 := h12.size
 have s23 := h23.size
 have h13 := h12.trans h23 (fun _ e _ => e)
 have q3 := hq.upd h13 (fun i e => .inl e)
 have b3 := hb.upd h23 (fun i e => .inl (by omega))
 refine ⟨q3.o, b3.o.rebase (fun k e => by have := b3.o.ge e; omega), hh.rebase (fun k e => by have := hh.ge e; omega), q3.s, fun b hb' => (b3.s b hb').rebase (fun k e => by have := (b3.s b hb').ge e; omega), fun b hb' => ((ht b hb').upd h23 (fun k hk e => by have := (ht b hb').ge hk; omega)).rebase (fun k e => by have := (ht b hb').ge e; omega), q3.d, b3.d, fun q hq' m hm => ?_, fun b hb' p hp => ?_, wf⟩
 ·refine ((hq.r q hq' m hm).lt.upd h13 (fun i hi e => by have := hi.1.1; omega)).weaken (fun i _ hi => ⟨hi.1.1, fun hM => ?_⟩)
  unfold StT.mv at hM; simp only [aab, abd] at hM; rcases hM with e | e | e | ⟨u, hu, e⟩ | ⟨u, hu, e⟩
  ·exact hi.1.2.1 e
  ·have := hb.o.ge e; have := hi.2; omega
  ·have := hh.ge e; have := hi.2; omega
  ·obtain ⟨y, hy, rfl⟩ := jv.1 hu; exact hi.1.2.2 y hy e
  ·obtain ⟨y, hy, rfl⟩ := jv.1 hu; have := (hb.s y hy).ge e; have := hi.2; omega
 ·refine ((hb.r b hb' p hp).lt.upd h23 (fun i hi e => by have := hi.1.1; omega)).weaken (fun i _ hi => ⟨by have := hi.1.1; omega, fun hM => ?_⟩)
  unfold StT.mv at hM; simp only [aab, abd] at hM; rcases hM with e | e | e | ⟨u, hu, e⟩ | ⟨u, hu, e⟩
  ·have := hq.o.lt e; have := hi.1.1; omega
  ·exact hi.1.2.1 e
  ·have := hh.ge e; have := hi.2; omega
  ·obtain ⟨y, hy, rfl⟩ := jv.1 hu; have := (hq.s y hy).lt e; have := hi.1.1; omega
  ·obtain ⟨y, hy, rfl⟩ := jv.1 hu; exact hi.1.2.2 y hy e
theorem bae (q body q2 ahf : ByteArray) (id id2 : Int) (pr pr2 : PT) : (PtT.mk q id pr body).p = (PtT.mk q2 id2 pr2 ahf).p ↔ q = q2 ∧ id = id2 ∧ body = ahf ∧ pr.p = pr2.p := by
 show Pt.mk _ _ _ _ = Pt.mk _ _ _ _ ↔ _
 rw [Pt.mk.injEq]
 exact ⟨fun h => ⟨h.1, h.2.1, h.2.2.2, h.2.2.1⟩, fun h => ⟨h.1, h.2.1, h.2.2.2, h.2.2.1⟩⟩
theorem ahu {P : Prop} (h : P := by
 obtain ⟨c0, c1, c2, c3, c4, c5, c6, c7, c8, c9, c10, c11⟩ := b0.a12
 obtain ⟨d0, d1, d2, d3, d4, d5, d6, d7, d8, d9, d10, d11⟩ := b1.a12
 go_enter func127, ntmps127
 go_wp2
 go_ret
 exact adm (fun h => hno.out h.1) hB1) : P := h
theorem ar3 (t x : PtT) (P P2 : Nat → Prop) (w : World) (hR : Rd P w t.pr.app) (hR2 : Rd P2 w x.pr.app) : Calls prog 127 #[t.arg, x.arg] w (amt w.heap.size w (t.p = x.p)) := by
 obtain ⟨qu, idu, ⟨keyu, duru, redu, midu, uv⟩, bodyu⟩ := t
 have hR : Rd _ _ uv := hR
 obtain ⟨uk, un, us, uka, ukc, ula, ulc, uks, ul, rfl, -⟩ := hR.open
 obtain ⟨qx, idx, ⟨keyx, durx, redx, midx, xv⟩, bodyx⟩ := x
 have hR2 : Rd _ _ xv := hR2
 obtain ⟨xk, xn, xs, xka, xkc, xla, xlc, xks, xl, rfl, -⟩ := hR2.open
 simp only [PtT.arg_mk, bae]
 by_cases e : qu = qx
 rotate_left 1
 ·have h1 : ¬ qu.toList = qx.toList := acd e
  have h2 : (qu.toList == qx.toList) = false := ju.2 h1; have h3 : decide (qu.toList = qx.toList) = false := qg h1; have hno := qq e; clear e; have hB0 := ((qz w.heap.size w).alloc (qj _) (.cells #[.string qu, .int .u64 idu, .string keyu, .bool duru, .bool redu, .string midu, .int .u8 uk, .int .u64 un, .string us, .slice uka uks.length ukc, .slice ula ul.length ulc, .string bodyu] 64)); have hB1 := hB0.alloc hB0.size (.cells #[.string qx, .int .u64 idx, .string keyx, .bool durx, .bool redx, .string midx, .int .u8 xk, .int .u64 xn, .string xs, .slice xka xks.length xkc, .slice xla xl.length xlc, .string bodyx] 64); have b0 := (Blk.new w [.string qu, .int .u64 idu, .string keyu, .bool duru, .bool redu, .string midu, .int .u8 uk, .int .u64 un, .string us, .slice uka uks.length ukc, .slice ula ul.length ulc, .string bodyu] 64).alloc (.cells #[.string qx, .int .u64 idx, .string keyx, .bool durx, .bool redx, .string midx, .int .u8 xk, .int .u64 xn, .string xs, .slice xka xks.length xkc, .slice xla xl.length xlc, .string bodyx] 64); have b1 := Blk.newK (w.alloc (.cells #[.string qu, .int .u64 idu, .string keyu, .bool duru, .bool redu, .string midu, .int .u8 uk, .int .u64 un, .string us, .slice uka uks.length ukc, .slice ula ul.length ulc, .string bodyu] 64)) [.string qx, .int .u64 idx, .string keyx, .bool durx, .bool redx, .string midx, .int .u8 xk, .int .u64 xn, .string xs, .slice xka xks.length xkc, .slice xla xl.length xlc, .string bodyx] 64 (w.heap.size + 1) (by simp); exact ahu
 subst e
 by_cases e : idu = idx
 rotate_left 1
 ·have h2 : (idu == idx) = false := ju.2 e
  have h3 : decide (idu = idx) = false := qg e; have hno := qq e; clear e; have hB0 := ((qz w.heap.size w).alloc (qj _) (.cells #[.string qu, .int .u64 idu, .string keyu, .bool duru, .bool redu, .string midu, .int .u8 uk, .int .u64 un, .string us, .slice uka uks.length ukc, .slice ula ul.length ulc, .string bodyu] 64)); have hB1 := hB0.alloc hB0.size (.cells #[.string qu, .int .u64 idx, .string keyx, .bool durx, .bool redx, .string midx, .int .u8 xk, .int .u64 xn, .string xs, .slice xka xks.length xkc, .slice xla xl.length xlc, .string bodyx] 64); have b0 := (Blk.new w [.string qu, .int .u64 idu, .string keyu, .bool duru, .bool redu, .string midu, .int .u8 uk, .int .u64 un, .string us, .slice uka uks.length ukc, .slice ula ul.length ulc, .string bodyu] 64).alloc (.cells #[.string qu, .int .u64 idx, .string keyx, .bool durx, .bool redx, .string midx, .int .u8 xk, .int .u64 xn, .string xs, .slice xka xks.length xkc, .slice xla xl.length xlc, .string bodyx] 64); have b1 := Blk.newK (w.alloc (.cells #[.string qu, .int .u64 idu, .string keyu, .bool duru, .bool redu, .string midu, .int .u8 uk, .int .u64 un, .string us, .slice uka uks.length ukc, .slice ula ul.length ulc, .string bodyu] 64)) [.string qu, .int .u64 idx, .string keyx, .bool durx, .bool redx, .string midx, .int .u8 xk, .int .u64 xn, .string xs, .slice xka xks.length xkc, .slice xla xl.length xlc, .string bodyx] 64 (w.heap.size + 1) (by simp); exact ahu
 subst e
 by_cases e : bodyu = bodyx
 rotate_left 1
 ·have h1 : ¬ bodyu.toList = bodyx.toList := acd e
  have h2 : (bodyu.toList == bodyx.toList) = false := ju.2 h1; have h3 : decide (bodyu.toList = bodyx.toList) = false := qg h1; have hno := qq e; clear e; have hB0 := ((qz w.heap.size w).alloc (qj _) (.cells #[.string qu, .int .u64 idu, .string keyu, .bool duru, .bool redu, .string midu, .int .u8 uk, .int .u64 un, .string us, .slice uka uks.length ukc, .slice ula ul.length ulc, .string bodyu] 64)); have hB1 := hB0.alloc hB0.size (.cells #[.string qu, .int .u64 idu, .string keyx, .bool durx, .bool redx, .string midx, .int .u8 xk, .int .u64 xn, .string xs, .slice xka xks.length xkc, .slice xla xl.length xlc, .string bodyx] 64); have b0 := (Blk.new w [.string qu, .int .u64 idu, .string keyu, .bool duru, .bool redu, .string midu, .int .u8 uk, .int .u64 un, .string us, .slice uka uks.length ukc, .slice ula ul.length ulc, .string bodyu] 64).alloc (.cells #[.string qu, .int .u64 idu, .string keyx, .bool durx, .bool redx, .string midx, .int .u8 xk, .int .u64 xn, .string xs, .slice xka xks.length xkc, .slice xla xl.length xlc, .string bodyx] 64); have b1 := Blk.newK (w.alloc (.cells #[.string qu, .int .u64 idu, .string keyu, .bool duru, .bool redu, .string midu, .int .u8 uk, .int .u64 un, .string us, .slice uka uks.length ukc, .slice ula ul.length ulc, .string bodyu] 64)) [.string qu, .int .u64 idu, .string keyx, .bool durx, .bool redx, .string midx, .int .u8 xk, .int .u64 xn, .string xs, .slice xka xks.length xkc, .slice xla xl.length xlc, .string bodyx] 64 (w.heap.size + 1) (by simp); exact ahu
 subst e
 have hB0 := ((qz w.heap.size w).alloc (qj _) (.cells #[.string qu, .int .u64 idu, .string keyu, .bool duru, .bool redu, .string midu, .int .u8 uk, .int .u64 un, .string us, .slice uka uks.length ukc, .slice ula ul.length ulc, .string bodyu] 64))
 have hB1 := hB0.alloc hB0.size (.cells #[.string qu, .int .u64 idu, .string keyx, .bool durx, .bool redx, .string midx, .int .u8 xk, .int .u64 xn, .string xs, .slice xka xks.length xkc, .slice xla xl.length xlc, .string bodyu] 64)
 have b0 := (Blk.new w [.string qu, .int .u64 idu, .string keyu, .bool duru, .bool redu, .string midu, .int .u8 uk, .int .u64 un, .string us, .slice uka uks.length ukc, .slice ula ul.length ulc, .string bodyu] 64).alloc (.cells #[.string qu, .int .u64 idu, .string keyx, .bool durx, .bool redx, .string midx, .int .u8 xk, .int .u64 xn, .string xs, .slice xka xks.length xkc, .slice xla xl.length xlc, .string bodyu] 64)
 have b1 := Blk.newK (w.alloc (.cells #[.string qu, .int .u64 idu, .string keyu, .bool duru, .bool redu, .string midu, .int .u8 uk, .int .u64 un, .string us, .slice uka uks.length ukc, .slice ula ul.length ulc, .string bodyu] 64)) [.string qu, .int .u64 idu, .string keyx, .bool durx, .bool redx, .string midx, .int .u8 xk, .int .u64 xn, .string xs, .slice xka xks.length xkc, .slice xla xl.length xlc, .string bodyu] 64 (w.heap.size + 1) (by simp)
 obtain ⟨c0, c1, c2, c3, c4, c5, c6, c7, c8, c9, c10, c11⟩ := b0.a12
 obtain ⟨d0, d1, d2, d3, d4, d5, d6, d7, d8, d9, d10, d11⟩ := b1.a12
 have R1 := hR.pure hB1; have X1 := hR2.pure hB1
 go_enter func127, ntmps127
 go_wp2_with (go_at_call 69; refine (ald (PT.mk keyu duru redu midu (VT.mk uk un us (.slice uka uks.length ukc) (.slice ula ul.length ulc) uks ul)) (PT.mk keyx durx redx midx (VT.mk xk xn xs (.slice xka xks.length xkc) (.slice xla xl.length xlc) xks xl)) _ _ _ R1 X1).mono ?_; rintro e w3 ⟨⟨b, rfl, hb⟩, hB3⟩; have hbh := qq hb; clear hb; have hBz := hB1.trans (hB3.mono hB1.size))
 go_ret
 exact acn (by simpa using hbh.out) hBz
theorem bb9 (w : World) (q q2 : ByteArray) (i i2 : Int) : (binOp .neq 68 (.agg #[.string q, .int .u64 i]) (.agg #[.string q2, .int .u64 i2])).run prog w = .ok (.bool (!(q == q2 && i == i2))) w := by
 have hf : prog.fieldsOf 68 = (match prog.underlying 68 with | some (.struct fs) => fs | _ => #[]) := rfl
 rw [underlying68] at hf
 simp only at hf
 rw [run_neq_struct, show (10000 : Nat) = 9999 + 1 from rfl, run_equalIn_agg w 9999 _ _ _ (by rw [hf]; exact underlying68) (by kernel_rfl), hf]
 cases h1 : (q == q2) <;> cases h2 : (i == i2) <;> simp [go_sem, ae9, h1, h2]
theorem akj {B : Nat} {w w' : World} {Q : Prop} {e : Ending} (h : amt B w Q e w') (b : Bool) (hb : b = true ↔ Q) : e = .returned (.bool b) ∧ Below B w w' := by
 obtain ⟨⟨c, rfl, hc⟩, hB⟩ := h
 refine ⟨?_, hB⟩
 have : c = b := by cases b <;> cases c <;> simp_all
 rw [this]
theorem bca (q q2 : ByteArray) (i i2 : Int) : (q == q2 && i == i2) = true ↔ (⟨q, i⟩ : Rf) = ⟨q2, i2⟩ := by
 rw [Rf.mk.injEq, jj, beq_toListBytes, beq_iff_eq, beq_iff_eq]
 exact ⟨fun h => ⟨toList_inj h.1, h.2⟩, fun h => ⟨by rw [h.1], h.2⟩⟩
theorem al0 {P : Prop} (h : P := by
 obtain rfl : k = ks.length := by omega
 have hks := qq (show ks = ks2 by have h := htk.out; rw [js, List.take_of_length_le (by rw [hkl.out]; exact qj _)] at h; exact h)
 go_wp2
 go_ret
 exact acn ⟨fun _ => hks.out, fun _ => rfl⟩ hB) : P := h
theorem ada {P : Prop} (h : P := by
 go_wp2
 go_ret
 exact adm hno.out (qz _ _)) : P := h
theorem au9 (w : World) (ka va : Option Addr) (kc vc : Nat) (ks ks2 : List Rf) (hK : Slc abc 2 w (.slice ka ks.length kc) ks) (hK2 : Slc abc 2 w (.slice va ks2.length vc) ks2) (hmk : (ks.length : Int) ≤ 9223372036854775807) :
 Calls prog 125 #[.slice ka ks.length kc, .slice va ks2.length vc] w (amt w.heap.size w (ks = ks2)) := by
 by_cases e : ks2.length = ks.length
 rotate_left 1
 ·have h1 : ¬ (ks.length : Int) = (ks2.length : Int) := by omega
  have h2 : ((ks.length : Int) != (ks2.length : Int)) = true := bne_iff_ne.2 h1; have hno := qq (fun h : ks = ks2 => e (by rw [h])); clear e; go_enter func125, ntmps125; exact ada
 rw [e] at hK2 ⊢
 have hkl := qq e
 clear e
 go_enter func125, ntmps125
 go_wp2
 go_loopw [13] (fun s5 wr => ∃ (k : Nat), k ≤ ks.length ∧ s5 = .int .i64 k ∧ Hid (ks.take k = ks2.take k) ∧ Below w.heap.size w wr) (fun s5 _ => ks.length - (intOf s5).toNat)
 case atStart => exact ⟨0, by omega, rfl, qq (by simp), qz _ _⟩
 case round =>
  obtain ⟨k, hk, rfl, htk, hB⟩ := hrel; by_cases hlt : k < ks.length
  ·have h1 : (k : Int) < (ks.length : Int) := by omega
   have hlt2 : k < ks2.length := by rw [hkl.out]; exact hlt
   have hKr := hK.pure hB; have hKr2 := hK2.pure hB; rw [← hkl.out] at hKr2; obtain ⟨kg, koff, rfl⟩ := hKr.addrB hlt; obtain ⟨vg, voff, rfl⟩ := hKr2.addrB hlt2; obtain ⟨q, i, hkx, c0, c1⟩ := ado hKr hlt; obtain ⟨q2, i2, hvx, d0, d1⟩ := ado hKr2 hlt2; obtain ⟨b, hb⟩ := zz (q == q2 && i == i2); have hR := fun (u : World) => (bb9 u q q2 i i2).trans (show _ = Result.ok (.bool (!b)) u by rw [hb])
   have hbe := bca q q2 i i2; rw [hb] at hbe
   have hno := qq (fun (hb : b = false) (h : ks = ks2) => show False by
    have h9 : ks[k] = ks2[k] := by simp [h]
    rw [hkx, hvx] at h9
    rw [hbe.2 h9] at hb; exact jp hb (by simp))
   have hst := qq (fun (hb : b = true) => show ks.take (k + 1) = ks2.take (k + 1) by rw [jx hlt, jx hlt2, htk.out, hkx, hvx, hbe.1 hb]); clear hkx hvx hKr hKr2 hb hbe; cases b
   ·have hno2 := qq (hno.out rfl)
    clear hno hst; go_wp2
    first | (go_region; go_wp2) | skip
    go_ret; exact adm hno2.out (by first | exact hB | exact aad hB)
   ·have hst2 := qq (hst.out rfl)
    clear hno hst; go_wp2
    first | (go_region; go_wp2) | skip
    go_roundw
    case rel => exact ⟨k + 1, by omega, by go_num, hst2, by first | exact hB | exact aad hB⟩
    case measure => simp [intOf]; omega
  ·exact al0
theorem afw {P : Prop} (h : P := by
 go_wp2
 go_ret
 exact acn ⟨fun _ => hls.out, fun _ => rfl⟩ hB) : P := h
theorem agp {P : Prop} (h : P := by
 exact ⟨false, ⟨fun e => jp e (by decide), fun e => jp e h⟩⟩) : P := h
theorem ava (w : World) (la xa : Option Addr) (lc xc : Nat) (l l2 : List PtT) (P P2 : Nat → Prop) (hL : Slc aat 12 w (.slice la l.length lc) l) (hL2 : Slc aat 12 w (.slice xa l2.length xc) l2) (hml : (l.length : Int) ≤ 9223372036854775807) (hsub : ∀ x ∈ l, Rd P w x.pr.app) (hsub2 : ∀ x ∈ l2, Rd P2 w x.pr.app) :
 Calls prog 126 #[.slice la l.length lc, .slice xa l2.length xc, .func (.func 127) #[] #[]] w (amt w.heap.size w (l.map PtT.p = l2.map PtT.p)) := by
 have hsubh := qq hsub; have hsub2h := qq hsub2
 clear hsub hsub2
 by_cases e : l2.length = l.length
 rotate_left 1
 ·have h1 : ¬ (l.length : Int) = (l2.length : Int) := by omega
  have h2 : ((l.length : Int) != (l2.length : Int)) = true := bne_iff_ne.2 h1; have hno := qq (fun h : l.map PtT.p = l2.map PtT.p => e (by have := congrArg List.length h; simpa using this.symm)); clear e; go_enter func126, ntmps126; exact ada
 rw [e] at hL2 ⊢
 have hll := qq e
 clear e
 go_enter func126, ntmps126
 go_wp2
 go_loopw [17] (fun s5 wr => ∃ (k : Nat), k ≤ l.length ∧ s5 = .int .i64 k ∧ Hid ((l.map PtT.p).take k = (l2.map PtT.p).take k) ∧ Below w.heap.size w wr) (fun s5 _ => l.length - (intOf s5).toNat)
 case atStart => exact ⟨0, by omega, rfl, qq (by simp), qz _ _⟩
 case round =>
  obtain ⟨k, hk, rfl, htk, hB⟩ := hrel; by_cases hlt : k < l.length
  ·have h1 : (k : Int) < (l.length : Int) := by omega
   have hlt2 : k < l2.length := by rw [hll.out]; exact hlt
   have hLr := hL.pure hB; have hLr2 := hL2.pure hB; rw [← hll.out] at hLr2; obtain ⟨g, off, rfl⟩ := hLr.addrB hlt; obtain ⟨g2, off2, rfl⟩ := hLr2.addrB hlt2; have hRk := (hsubh.out l[k] (qy hlt)).pure hB; have hRk2 := (hsub2h.out l2[k] (qy hlt2)).pure hB; obtain ⟨qu, idu, keyu, duru, redu, midu, uk, un, us, uka, ukc, ula, ulc, uks, ul, bodyu, hx, e0, e1, e2, e3, e4, e5, e6, e7, e8, e9, e10, e11⟩ := ad5 hLr hlt hRk; have hA := (qz wr.heap.size wr).alloc (qj _) (.cells #[.string qu, .int .u64 idu, .string keyu, .bool duru, .bool redu, .string midu, .int .u8 uk, .int .u64 un, .string us, .slice uka uks.length ukc, .slice ula ul.length ulc, .string bodyu] 64); have hLr3 := hLr2.pure hA; have hRk3 := hRk2.pure hA; obtain ⟨qx, idx, keyx, durx, redx, midx, xk, xn, xs, xka, xkc, xla, xlc, xks, xl, bodyx, hy, f0, f1, f2, f3, f4, f5, f6, f7, f8, f9, f10, f11⟩ := ad5 hLr3 hlt2 hRk3; have hst := qq (fun e : l[k].p = l2[k].p => show (l.map PtT.p).take (k + 1) = (l2.map PtT.p).take (k + 1) by rw [jx (by simpa using hlt), jx (by simpa using hlt2), htk.out, zq, zq, e])
   have hno := qq (fun h : l.map PtT.p = l2.map PtT.p => show l[k].p = l2[k].p by
    have e1 : (l.map PtT.p)[k]? = (l2.map PtT.p)[k]? := by rw [h]
    rw [List.getElem?_map, List.getElem?_map, List.getElem?_eq_getElem hlt, List.getElem?_eq_getElem hlt2] at e1
    exact Option.some.inj e1)
   have hB2 := hA.alloc hA.size (.cells #[.string qx, .int .u64 idx, .string keyx, .bool durx, .bool redx, .string midx, .int .u8 xk, .int .u64 xn, .string xs, .slice xka xks.length xkc, .slice xla xl.length xlc, .string bodyx] 64); have hi := ar3 l[k] l2[k] P P2 ((wr.alloc (.cells #[.string qu, .int .u64 idu, .string keyu, .bool duru, .bool redu, .string midu, .int .u8 uk, .int .u64 un, .string us, .slice uka uks.length ukc, .slice ula ul.length ulc, .string bodyu] 64)).alloc (.cells #[.string qx, .int .u64 idx, .string keyx, .bool durx, .bool redx, .string midx, .int .u8 xk, .int .u64 xn, .string xs, .slice xka xks.length xkc, .slice xla xl.length xlc, .string bodyx] 64)) (hRk.pure hB2) (hRk2.pure hB2)
   obtain ⟨b, hb⟩ : ∃ b : Bool, b = true ↔ l[k].p = l2[k].p := by
    rcases Classical.em (l[k].p = l2[k].p) with h | h
    ·exact ⟨true, ⟨fun _ => h, fun _ => rfl⟩⟩
    ·exact agp
   have hi2 := hi.mono (fun e w' h => akj h b hb); rw [hx, hy, PtT.arg_mk, PtT.arg_mk] at hi2; have hih := qq hi2; have hno2 := qq (fun (h : b = false) (h2 : l.map PtT.p = l2.map PtT.p) => show False by rw [hb.2 (hno.out h2)] at h; exact jp h (by simp)); have hst2 := qq (fun (h : b = true) => hst.out (hb.1 h)); have bx := (Blk.new wr [.string qu, .int .u64 idu, .string keyu, .bool duru, .bool redu, .string midu, .int .u8 uk, .int .u64 un, .string us, .slice uka uks.length ukc, .slice ula ul.length ulc, .string bodyu] 64).alloc (.cells #[.string qx, .int .u64 idx, .string keyx, .bool durx, .bool redx, .string midx, .int .u8 xk, .int .u64 xn, .string xs, .slice xka xks.length xkc, .slice xla xl.length xlc, .string bodyx] 64); have by_ := Blk.newK (wr.alloc (.cells #[.string qu, .int .u64 idu, .string keyu, .bool duru, .bool redu, .string midu, .int .u8 uk, .int .u64 un, .string us, .slice uka uks.length ukc, .slice ula ul.length ulc, .string bodyu] 64)) [.string qx, .int .u64 idx, .string keyx, .bool durx, .bool redx, .string midx, .int .u8 xk, .int .u64 xn, .string xs, .slice xka xks.length xkc, .slice xla xl.length xlc, .string bodyx] 64 (wr.heap.size + 1) (by simp); obtain ⟨c0, c1, c2, c3, c4, c5, c6, c7, c8, c9, c10, c11⟩ := bx.a12; obtain ⟨d0, d1, d2, d3, d4, d5, d6, d7, d8, d9, d10, d11⟩ := by_.a12; have hBB := hB.trans (hB2.mono hB.size); clear hx hy hi hi2 hb hno hst hRk hRk2 hRk3 hLr hLr2 hLr3 hA; cases b
   ·have hno3 := qq (hno2.out rfl)
    clear hno2 hst2; go_wp2_with (go_at_call 127; (with_reducible refine hih.out.mono ?_); rintro e w1 ⟨rfl, hB1⟩; have hB3 := hBB.trans (hB1.mono hBB.size)); go_ret; exact adm hno3.out hB3
   ·have hst3 := qq (hst2.out rfl)
    clear hno2 hst2; go_wp2_with (go_at_call 127; (with_reducible refine hih.out.mono ?_); rintro e w1 ⟨rfl, hB1⟩; have hB3 := hBB.trans (hB1.mono hBB.size)); go_roundw
    case rel => exact ⟨k + 1, by omega, by go_num, hst3, hB3⟩
    case measure => simp [intOf]; omega
  ·obtain rfl : k = l.length := by omega
   have hls := qq (show l.map PtT.p = l2.map PtT.p by have h := htk.out; rw [List.take_of_length_le (by simp), List.take_of_length_le (by simp; rw [hll.out]; exact qj _)] at h; exact h); exact afw
theorem baf (k n k2 n2 : Int) (s s2 : ByteArray) (x x2 : Xn) (pv tv pv2 tv2 : Value) (P P2 : List PtT) (T T2 : List Rf) : (EnT.mk k s n x pv tv P T).e = (EnT.mk k2 s2 n2 x2 pv2 tv2 P2 T2).e ↔ k = k2 ∧ s = s2 ∧ n = n2 ∧ x = x2 ∧ T = T2 ∧ P.map PtT.p = P2.map PtT.p := by
 show En.mk _ _ _ _ _ _ = En.mk _ _ _ _ _ _ ↔ _
 rw [En.mk.injEq]
 exact ⟨fun h => ⟨h.1, h.2.1, h.2.2.1, h.2.2.2.1, h.2.2.2.2.2, h.2.2.2.2.1⟩, fun h => ⟨h.1, h.2.1, h.2.2.1, h.2.2.2.1, h.2.2.2.2.2, h.2.2.2.2.1⟩⟩
theorem bcb (xf yf : Int) (xg xb yg yb : ByteArray) : (xf == yf && (xg == yg && xb == yb)) = true ↔ ((xf, xg, xb) : Xn) = (yf, yg, yb) := by
 rw [jm, jm, jj, jj, beq_iff_eq, beq_toListBytes, beq_toListBytes, beq_iff_eq, beq_iff_eq]
 exact ⟨fun h => ⟨h.1, toList_inj h.2.1, toList_inj h.2.2⟩, fun h => ⟨h.1, by rw [h.2.1], by rw [h.2.2]⟩⟩
theorem avb (t x : EnT) (P P2 : Nat → Prop) (w : World) (hR : EnRd P w t) (hR2 : EnRd P2 w x) : Calls prog 72 #[t.arg, x.arg] w (amt w.heap.size w (t.e = x.e)) := by
 obtain ⟨kindu, nameu, nu, xfu, xgu, xbu, pau, pcu, tau, tcu, putsu, takesu, rfl, hml, hmk⟩ := hR.open
 obtain ⟨kindv, namev, nv, xfv, xgv, xbv, pav, pcv, tav, tcv, putsv, takesv, rfl, -, -⟩ := hR2.open
 simp only [EnT.arg_mk, baf]
 have hml : (putsu.length : Int) ≤ 9223372036854775807 := by unfold maxLen at hml; omega
 have hmk : (takesu.length : Int) ≤ 9223372036854775807 := by unfold maxLen at hmk; omega
 by_cases e : kindu = kindv
 rotate_left 1
 ·have h2 : (kindu == kindv) = false := ju.2 e
  have h3 : decide (kindu = kindv) = false := qg e; have hno := qq e; clear e hR hR2 hml hmk; have hB0 := ((qz w.heap.size w).alloc (qj _) (.cells #[.int .u8 kindu, .string nameu, .int .u64 nu, .int .u32 xfu, .string xgu, .string xbu, .slice pau putsu.length pcu, .slice tau takesu.length tcu] 34)); have hB1 := hB0.alloc hB0.size (.cells #[.int .u8 kindv, .string namev, .int .u64 nv, .int .u32 xfv, .string xgv, .string xbv, .slice pav putsv.length pcv, .slice tav takesv.length tcv] 34); have b0 := (Blk.new w [.int .u8 kindu, .string nameu, .int .u64 nu, .int .u32 xfu, .string xgu, .string xbu, .slice pau putsu.length pcu, .slice tau takesu.length tcu] 34).alloc (.cells #[.int .u8 kindv, .string namev, .int .u64 nv, .int .u32 xfv, .string xgv, .string xbv, .slice pav putsv.length pcv, .slice tav takesv.length tcv] 34); have b1 := Blk.newK (w.alloc (.cells #[.int .u8 kindu, .string nameu, .int .u64 nu, .int .u32 xfu, .string xgu, .string xbu, .slice pau putsu.length pcu, .slice tau takesu.length tcu] 34)) [.int .u8 kindv, .string namev, .int .u64 nv, .int .u32 xfv, .string xgv, .string xbv, .slice pav putsv.length pcv, .slice tav takesv.length tcv] 34 (w.heap.size + 1) (by simp); obtain ⟨c0, c1, c2, c3, c4, c5, c6, c7⟩ := b0.a8; obtain ⟨d0, d1, d2, d3, d4, d5, d6, d7⟩ := b1.a8; go_enter func72, ntmps72; go_wp2; go_ret; exact adm (fun h => hno.out h.1) hB1
 subst e
 by_cases e : nameu = namev
 rotate_left 1
 ·have h1 : ¬ nameu.toList = namev.toList := acd e
  have h2 : (nameu.toList == namev.toList) = false := ju.2 h1; have h3 : decide (nameu.toList = namev.toList) = false := qg h1; have hno := qq e; clear e hR hR2 hml hmk; have hB0 := ((qz w.heap.size w).alloc (qj _) (.cells #[.int .u8 kindu, .string nameu, .int .u64 nu, .int .u32 xfu, .string xgu, .string xbu, .slice pau putsu.length pcu, .slice tau takesu.length tcu] 34)); have hB1 := hB0.alloc hB0.size (.cells #[.int .u8 kindu, .string namev, .int .u64 nv, .int .u32 xfv, .string xgv, .string xbv, .slice pav putsv.length pcv, .slice tav takesv.length tcv] 34); have b0 := (Blk.new w [.int .u8 kindu, .string nameu, .int .u64 nu, .int .u32 xfu, .string xgu, .string xbu, .slice pau putsu.length pcu, .slice tau takesu.length tcu] 34).alloc (.cells #[.int .u8 kindu, .string namev, .int .u64 nv, .int .u32 xfv, .string xgv, .string xbv, .slice pav putsv.length pcv, .slice tav takesv.length tcv] 34); have b1 := Blk.newK (w.alloc (.cells #[.int .u8 kindu, .string nameu, .int .u64 nu, .int .u32 xfu, .string xgu, .string xbu, .slice pau putsu.length pcu, .slice tau takesu.length tcu] 34)) [.int .u8 kindu, .string namev, .int .u64 nv, .int .u32 xfv, .string xgv, .string xbv, .slice pav putsv.length pcv, .slice tav takesv.length tcv] 34 (w.heap.size + 1) (by simp); obtain ⟨c0, c1, c2, c3, c4, c5, c6, c7⟩ := b0.a8; obtain ⟨d0, d1, d2, d3, d4, d5, d6, d7⟩ := b1.a8; go_enter func72, ntmps72; go_wp2; go_ret; exact adm (fun h => hno.out h.2.1) hB1
 subst e
 by_cases e : nu = nv
 rotate_left 1
 ·have h2 : (nu == nv) = false := ju.2 e
  have h3 : decide (nu = nv) = false := qg e; have hno := qq e; clear e hR hR2 hml hmk; have hB0 := ((qz w.heap.size w).alloc (qj _) (.cells #[.int .u8 kindu, .string nameu, .int .u64 nu, .int .u32 xfu, .string xgu, .string xbu, .slice pau putsu.length pcu, .slice tau takesu.length tcu] 34)); have hB1 := hB0.alloc hB0.size (.cells #[.int .u8 kindu, .string nameu, .int .u64 nv, .int .u32 xfv, .string xgv, .string xbv, .slice pav putsv.length pcv, .slice tav takesv.length tcv] 34); have b0 := (Blk.new w [.int .u8 kindu, .string nameu, .int .u64 nu, .int .u32 xfu, .string xgu, .string xbu, .slice pau putsu.length pcu, .slice tau takesu.length tcu] 34).alloc (.cells #[.int .u8 kindu, .string nameu, .int .u64 nv, .int .u32 xfv, .string xgv, .string xbv, .slice pav putsv.length pcv, .slice tav takesv.length tcv] 34); have b1 := Blk.newK (w.alloc (.cells #[.int .u8 kindu, .string nameu, .int .u64 nu, .int .u32 xfu, .string xgu, .string xbu, .slice pau putsu.length pcu, .slice tau takesu.length tcu] 34)) [.int .u8 kindu, .string nameu, .int .u64 nv, .int .u32 xfv, .string xgv, .string xbv, .slice pav putsv.length pcv, .slice tav takesv.length tcv] 34 (w.heap.size + 1) (by simp); obtain ⟨c0, c1, c2, c3, c4, c5, c6, c7⟩ := b0.a8; obtain ⟨d0, d1, d2, d3, d4, d5, d6, d7⟩ := b1.a8; go_enter func72, ntmps72; go_wp2; go_ret; exact adm (fun h => hno.out h.2.2.1) hB1
 subst e
 obtain ⟨b, hb⟩ := zz (xfu == xfv && (xgu == xgv && xbu == xbv))
 have hX := fun (u : World) => (azr u xfu xfv xgu xbu xgv xbv).trans (show _ = Result.ok (.bool b) u by rw [hb])
 have hxb := bcb xfu xfv xgu xbu xgv xbv
 rw [hb] at hxb
 have hno := qq (fun (hf : b = false) (h : ((xfu, xgu, xbu) : Xn) = (xfv, xgv, xbv)) => show False by rw [hxb.2 h] at hf; exact jp hf (by simp))
 have hst := qq (fun (hf : b = true) => hxb.1 hf)
 clear hb hxb
 cases b
 ·have hno2 := qq (hno.out rfl)
  clear hno hst hR hR2 hml hmk; have hB0 := ((qz w.heap.size w).alloc (qj _) (.cells #[.int .u8 kindu, .string nameu, .int .u64 nu, .int .u32 xfu, .string xgu, .string xbu, .slice pau putsu.length pcu, .slice tau takesu.length tcu] 34)); have hB1 := hB0.alloc hB0.size (.cells #[.int .u8 kindu, .string nameu, .int .u64 nu, .int .u32 xfv, .string xgv, .string xbv, .slice pav putsv.length pcv, .slice tav takesv.length tcv] 34); have b0 := (Blk.new w [.int .u8 kindu, .string nameu, .int .u64 nu, .int .u32 xfu, .string xgu, .string xbu, .slice pau putsu.length pcu, .slice tau takesu.length tcu] 34).alloc (.cells #[.int .u8 kindu, .string nameu, .int .u64 nu, .int .u32 xfv, .string xgv, .string xbv, .slice pav putsv.length pcv, .slice tav takesv.length tcv] 34); have b1 := Blk.newK (w.alloc (.cells #[.int .u8 kindu, .string nameu, .int .u64 nu, .int .u32 xfu, .string xgu, .string xbu, .slice pau putsu.length pcu, .slice tau takesu.length tcu] 34)) [.int .u8 kindu, .string nameu, .int .u64 nu, .int .u32 xfv, .string xgv, .string xbv, .slice pav putsv.length pcv, .slice tav takesv.length tcv] 34 (w.heap.size + 1) (by simp); obtain ⟨c0, c1, c2, c3, c4, c5, c6, c7⟩ := b0.a8; obtain ⟨d0, d1, d2, d3, d4, d5, d6, d7⟩ := b1.a8; go_enter func72, ntmps72; go_wp2; go_ret; exact adm (fun h => hno2.out h.2.2.2.1) hB1
 have hst2 := qq (hst.out rfl)
 clear hno hst
 have hB0 := ((qz w.heap.size w).alloc (qj _) (.cells #[.int .u8 kindu, .string nameu, .int .u64 nu, .int .u32 xfu, .string xgu, .string xbu, .slice pau putsu.length pcu, .slice tau takesu.length tcu] 34))
 have hB1 := hB0.alloc hB0.size (.cells #[.int .u8 kindu, .string nameu, .int .u64 nu, .int .u32 xfv, .string xgv, .string xbv, .slice pav putsv.length pcv, .slice tav takesv.length tcv] 34)
 have b0 := (Blk.new w [.int .u8 kindu, .string nameu, .int .u64 nu, .int .u32 xfu, .string xgu, .string xbu, .slice pau putsu.length pcu, .slice tau takesu.length tcu] 34).alloc (.cells #[.int .u8 kindu, .string nameu, .int .u64 nu, .int .u32 xfv, .string xgv, .string xbv, .slice pav putsv.length pcv, .slice tav takesv.length tcv] 34)
 have b1 := Blk.newK (w.alloc (.cells #[.int .u8 kindu, .string nameu, .int .u64 nu, .int .u32 xfu, .string xgu, .string xbu, .slice pau putsu.length pcu, .slice tau takesu.length tcu] 34)) [.int .u8 kindu, .string nameu, .int .u64 nu, .int .u32 xfv, .string xgv, .string xbv, .slice pav putsv.length pcv, .slice tav takesv.length tcv] 34 (w.heap.size + 1) (by simp)
 obtain ⟨c0, c1, c2, c3, c4, c5, c6, c7⟩ := b0.a8
 obtain ⟨d0, d1, d2, d3, d4, d5, d6, d7⟩ := b1.a8
 have R1 := hR.pure hB1; have X1 := hR2.pure hB1
 clear hR hR2
 obtain ⟨b, hb⟩ : ∃ b : Bool, b = true ↔ takesu = takesv := by
  rcases Classical.em (takesu = takesv) with h | h
  ·exact ⟨true, ⟨fun _ => h, fun _ => rfl⟩⟩
  ·exact agp
 have hi := (au9 _ tau tav tcu tcv takesu takesv R1.s X1.s hmk).mono (fun e w' h => akj h b hb)
 have hih := qq hi
 have hno := qq (fun (hf : b = false) (h : takesu = takesv) => show False by rw [hb.2 h] at hf; exact jp hf (by simp))
 have hst := qq (fun (hf : b = true) => hb.1 hf)
 have RH := qq R1; have XH := qq X1
 clear hb hi R1 X1
 cases b
 ·have hno2 := qq (hno.out rfl)
  clear hno hst; go_enter func72, ntmps72; go_wp2_with (go_at_call 125; (with_reducible refine hih.out.mono ?_); rintro e w3 ⟨rfl, hB3⟩; have hBz := hB1.trans (hB3.mono hB1.size)); go_ret; exact adm (fun h => hno2.out h.2.2.2.2.1) hBz
 have hst3 := qq (hst.out rfl)
 clear hno hst
 go_enter func72, ntmps72
 go_wp2_with (first | (go_at_call 125; (with_reducible refine hih.out.mono ?_); rintro e w3 ⟨rfl, hB3⟩; have hBy := hB1.trans (hB3.mono hB1.size); have R3 := RH.out.pure hB3; have X3 := XH.out.pure hB3; have hi2 := ava w3 pau pav pcu pcv putsu putsv _ _ R3.p X3.p hml R3.r X3.r; have hi2h := qq hi2; have e6 := (b0.pure hB3).at 6 rfl; have g6 := (b1.pure hB3).at 6 rfl; clear hi2 R3 X3) | (go_at_call 126; (with_reducible refine hi2h.out.mono ?_); rintro e w4 ⟨⟨b, rfl, hb⟩, hB4⟩; have hbh := qq hb; clear hb; have hBz := hBy.trans (hB4.mono hBy.size)))
 go_ret
 exact acn (by have a := hst2.out; have c := hst3.out; simp only [jm] at a; simp [hbh.out, a, c]) hBz
theorem avc {w w' : World} {p : Addr} {v : Value} (h : w.cell? p = some v) (hB : Below w.heap.size w w') : w'.cell? p = some v := by
 rw [World.cell?_of_block (w := w) (hB.block p.block (World.block_lt_of_cell? w p h)), h]
structure SmPt (p : PtT) : Prop where
 q : p.q.size ≤ 200
 body : p.body.size ≤ 20000
 key : p.pr.key.size ≤ 1000
 mid : p.pr.mid.size ≤ 1000
 fit : V.Fit p.pr.app.v
def bodies (l : List PtT) : Nat := (l.map (fun p => p.body.size)).sum
theorem aps {l : List PtT} {k : Nat} (h : k < l.length) : bodies (l.take (k + 1)) = bodies (l.take k) + l[k].body.size := by
 unfold bodies
 rw [jx h, List.map_append, List.sum_append]
 simp
theorem bag {l : List PtT} {k : Nat} (h : k < l.length) (hl : ∀ x ∈ l.take k, SmPt x) (hx : SmPt l[k]) : ∀ x ∈ l.take (k + 1), SmPt x := by
 intro x hm
 rw [jx h, List.mem_append, jc] at hm
 rcases hm with hm | rfl
 ·exact hl x hm
 ·exact hx
theorem ak1 (w : World) (la : Option Addr) (lc : Nat) (l : List PtT) (m : Int) (P : Nat → Prop) (hL : Slc aat 12 w (.slice la l.length lc) l) (hml : (l.length : Int) ≤ 9223372036854775807) (hsub : ∀ x ∈ l, Rd P w x.pr.app) :
 Calls prog 75 #[.slice la l.length lc, .int .i64 m] w (arc w.heap.size w ((l.length : Int) ≤ m ∧ (∀ x ∈ l, SmPt x) ∧ bodies l ≤ 20000)) := by
 have hsubh := qq hsub
 clear hsub
 by_cases e : (l.length : Int) ≤ m
 rotate_left 1
 ·have h1 : m < (l.length : Int) := by omega
  have h2 : ¬ (l.length : Int) ≤ m := e; clear e; go_enter func75, ntmps75; go_wp2; go_ret; exact abi (qz _ _)
 have h1 : (l.length : Int) ≤ m := e
 have h2 : ¬ m < (l.length : Int) := by omega
 have eh := qq e
 clear e
 go_enter func75, ntmps75
 go_wp2
 clear h1 h2
 go_loopw [5, 6] (fun s5 s6 wr => ∃ (k room : Nat), k ≤ l.length ∧ s5 = .int .i64 (room : Int) ∧ s6 = .int .i64 (k : Int) ∧ Hid (bodies (l.take k) + room = 20000) ∧ Hid (∀ x ∈ l.take k, SmPt x) ∧ Below w.heap.size w wr) (fun _ s6 _ => l.length - (intOf s6).toNat)
 case atStart => exact ⟨0, 20000, by omega, rfl, rfl, qq (by simp [bodies]), qq (by simp), qz _ _⟩
 case round =>
  obtain ⟨k, room, hk, rfl, rfl, hbo, hsm, hB⟩ := hrel; by_cases hlt : k < l.length
  ·have h1 : (k : Int) < (l.length : Int) := by omega
   have hLr := hL.pure hB; obtain ⟨g, off, rfl⟩ := hLr.addrB hlt; have hRk := (hsubh.out l[k] (qy hlt)).pure hB; obtain ⟨qu, idu, keyu, duru, redu, midu, uk, un, us, uka, ukc, ula, ulc, uks, ul, bodyu, hx, e0, e1, e2, e3, e4, e5, e6, e7, e8, e9, e10, e11⟩ := ad5 hLr hlt hRk; have htb := qq (aps hlt); have hts := qq (fun h : SmPt l[k] => bag hlt hsm.out h); have s1 := aje l[k].pr P wr hRk; rw [hx] at s1 hts htb; have s1h := qq s1; clear s1 hx hRk hLr; by_cases e : bodyu.size ≤ room
   rotate_left 1
   ·have hd : decide (room < bodyu.size) = true := qp (by omega)
    clear e htb hts s1h; go_wp2; go_ret; exact abi hB
   have hd : decide (room < bodyu.size) = false := qg (by omega); have hbh := qq e; clear e; by_cases e : qu.size ≤ 200
   rotate_left 1
   ·have hd2 : decide ((qu.size : Int) ≤ 200) = false := qg (by omega)
    have hd3 : decide (200 < qu.size) = true := qp (by omega); have hd4 : decide ((200 : Int) < (qu.size : Int)) = true := qp (by omega); have hd5 : decide (qu.size ≤ 200) = false := qg (by omega); clear e htb hts s1h; go_wp2; go_ret; exact abi hB
   have hd2 : decide ((qu.size : Int) ≤ 200) = true := qp (by omega); have hd3 : decide (200 < qu.size) = false := qg (by omega); have hd4 : decide ((200 : Int) < (qu.size : Int)) = false := qg (by omega); have hd5 : decide (qu.size ≤ 200) = true := qp (by omega); have hqh := qq e; clear e; go_wp2_with fail; refine s1h.out.mono ?_; rintro e w2 ⟨⟨b, rfl, hsb⟩, hB2⟩; have hsbh := qq hsb; clear hsb; have hB3 := hB.trans (hB2.mono hB.size); have k3 := avc e11 hB2; cases b
   ·go_wp2
    go_ret; exact abi hB3
   ·have hsz := qq (hsbh.out rfl)
    have hrm : ((room : Int) - (bodyu.size : Int)) = ((room - bodyu.size : Nat) : Int) := by have := hbh.out; omega
    have hrr := qq (show room ≤ 20000 by have := hbo.out; omega); have hwr : wrap64 ((room - bodyu.size : Nat) : Int) = ((room - bodyu.size : Nat) : Int) := IntWalk.wrap64_in _ (by have := hrr.out; omega); go_wp2; go_roundw
    case rel => exact ⟨k + 1, room - bodyu.size, by omega, by go_num, by go_num, qq (by rw [htb.out]; have h1 := hbo.out; have h2 := hbh.out; show _ + bodyu.size + _ = _; omega), qq (hts.out ⟨hqh.out, by have h1 := hbh.out; have h2 := hrr.out; show bodyu.size ≤ 20000; omega, hsz.out.1, hsz.out.2.1, hsz.out.2.2⟩), hB3⟩
    case measure => simp [intOf]; omega
  ·obtain rfl : k = l.length := by omega
   have hf := qq (show (∀ x ∈ l, SmPt x) ∧ bodies l ≤ 20000 from ⟨by have h := hsm.out; rw [js] at h; exact h, by have h := hbo.out; rw [js] at h; omega⟩); go_wp2; go_ret; exact ama (fun _ => ⟨eh.out, hf.out⟩) hB
structure SmEn (t : EnT) : Prop where
 nt : t.zy.length ≤ 110
 name : t.name.size ≤ 200
 np : (t.zu.length : Int) ≤ 110
 zu : ∀ x ∈ t.zu, SmPt x
 bodies : bodies t.zu ≤ 20000
 zy : ∀ r ∈ t.zy, r.q.size ≤ 200
theorem akk (t : EnT) (P : Nat → Prop) (w : World) (hR : EnRd P w t) : Calls prog 23 #[t.arg] w (arc w.heap.size w (SmEn t)) := by
 obtain ⟨kind, name, n, xf, xg, xb, pa, pc, ta, tc, zu, zy, rfl, hml, hmk⟩ := hR.open
 rw [EnT.arg_mk]
 have hml : (zu.length : Int) ≤ 9223372036854775807 := by unfold maxLen at hml; omega
 have hmk : (zy.length : Int) ≤ 9223372036854775807 := by unfold maxLen at hmk; omega
 have hB1 := (qz w.heap.size w).alloc (qj _) (.cells #[.int .u8 kind, .string name, .int .u64 n, .int .u32 xf, .string xg, .string xb, .slice pa zu.length pc, .slice ta zy.length tc] 34)
 have A1 := Blk.new w [.int .u8 kind, .string name, .int .u64 n, .int .u32 xf, .string xg, .string xb, .slice pa zu.length pc, .slice ta zy.length tc] 34
 have R1 := hR.pure hB1
 clear hR
 obtain ⟨a0, a1, a2, a3, a4, a5, a6, a7⟩ := A1.a8
 have s1 := qq (ak1 _ pa pc zu 110 P R1.p hml R1.r)
 have hS1 := qq R1.s
 clear R1
 go_enter func23, ntmps23
 by_cases h1 : zy.length ≤ 110
 rotate_left 1
 ·have h1d : decide ((zy.length : Int) ≤ 110) = false := qg (by omega)
  have h1e : decide (zy.length ≤ 110) = false := qg (by omega); have h1f : decide (110 < zy.length) = true := qp (by omega); have h1g : decide ((110 : Int) < (zy.length : Int)) = true := qp (by omega); have h1i : 110 < zy.length := by omega
  have h1k : (110 : Int) < (zy.length : Int) := by omega
  clear h1 s1; go_wp2; go_ret; exact abi hB1
 have h1d : decide ((zy.length : Int) ≤ 110) = true := qp (by omega)
 have h1e : decide (zy.length ≤ 110) = true := qp (by omega)
 have h1f : decide (110 < zy.length) = false := qg (by omega)
 have h1g : decide ((110 : Int) < (zy.length : Int)) = false := qg (by omega)
 have h1h := qq h1
 clear h1
 by_cases h1 : name.size ≤ 200
 rotate_left 1
 ·have h2d : decide ((name.size : Int) ≤ 200) = false := qg (by omega)
  have h2e : decide (name.size ≤ 200) = false := qg (by omega); have h2f : decide (200 < name.size) = true := qp (by omega); have h2g : decide ((200 : Int) < (name.size : Int)) = true := qp (by omega); clear h1 s1; go_wp2; go_ret; exact abi hB1
 have h2d : decide ((name.size : Int) ≤ 200) = true := qp (by omega)
 have h2e : decide (name.size ≤ 200) = true := qp (by omega)
 have h2f : decide (200 < name.size) = false := qg (by omega)
 have h2g : decide ((200 : Int) < (name.size : Int)) = false := qg (by omega)
 have h2h := qq h1
 clear h1
 go_wp2_with fail
 refine s1.out.mono ?_
 rintro e w2 ⟨⟨b, rfl, hsb⟩, hB2⟩
 have hsbh := qq hsb
 have hB3 := hB1.trans (hB2.mono hB1.size)
 have A2 := A1.pure hB2
 have K2 := hS1.out.pure hB2
 clear hsb s1 hS1 a0 a1 a2 a3 a4 a5 a6 a7
 cases b
 ·go_wp2
  go_ret; exact abi hB3
 have hsz := qq (hsbh.out rfl)
 clear hsbh h1d h1e h1f h1g h2d h2e h2f h2g
 go_wp2
 go_loopw [3] (fun s3 wr => ∃ (k : Nat), k ≤ zy.length ∧ s3 = .int .i64 (k : Int) ∧ Hid (∀ r ∈ zy.take k, r.q.size ≤ 200) ∧ wr = w2) (fun s3 _ => zy.length - (intOf s3).toNat)
 case atStart => exact ⟨0, by omega, rfl, qq (by simp), rfl⟩
 case round =>
  obtain ⟨k, hk, rfl, hsm, rfl⟩ := hrel; have a7 := A2.at 7 rfl; by_cases hlt : k < zy.length
  ·have h1 : (k : Int) < (zy.length : Int) := by omega
   obtain ⟨g, off, rfl⟩ := K2.addrB hlt; obtain ⟨q, i, hx, c0, c1⟩ := ado K2 hlt
   have hts := qq (fun h : q.size ≤ 200 => show ∀ r ∈ zy.take (k + 1), r.q.size ≤ 200 by
    intro r hm; rw [jx hlt, List.mem_append, jc] at hm; rcases hm with hm | rfl
    ·exact hsm.out r hm
    ·rw [hx]; exact h)
   clear hx; by_cases h2 : q.size ≤ 200
   rotate_left 1
   ·have hd : 200 < q.size := by omega
    have hd2 : (200 : Int) < (q.size : Int) := by omega
    clear hts; go_wp2; go_ret; exact abi hB3
   ·have hts2 := qq (hts.out h2)
    have hd : ¬ 200 < q.size := by omega
    have hd2 : ¬ (200 : Int) < (q.size : Int) := by omega
    clear hts; go_wp2; go_roundw
    case rel => exact ⟨k + 1, by omega, by go_num, hts2, by first | trivial | rfl⟩
    case measure => simp [intOf]; omega
  ·obtain rfl : k = zy.length := by omega
   have hf := qq (show SmEn (EnT.mk kind name n (xf, xg, xb) (.slice pa zu.length pc) (.slice ta zy.length tc) zu zy) from ⟨h1h.out, h2h.out, hsz.out.1, hsz.out.2.1, hsz.out.2.2, by have h := hsm.out; rw [js] at h; exact h⟩); go_wp2; go_ret; exact ama (fun _ => hf.out) hB3
structure SmQu (q : QuT) : Prop where
 l : q.zw.length ≤ 40
 m : ∀ m ∈ q.zw, m.body.size ≤ 5000 ∧ m.pr.key.size ≤ 1000 ∧ m.pr.mid.size ≤ 1000 ∧ V.Fit m.pr.app.v
structure SmBr (b : BrT) : Prop where
 p : b.zu.length ≤ 20
 t : b.zy.length ≤ 20
 e : SmEn b.en
structure SmSt (t : StT) : Prop where
 q : t.qs.length ≤ 12
 b : t.zk.length ≤ 12
 h : t.hs.length ≤ 40
 qs : ∀ q ∈ t.qs, SmQu q
 bs : ∀ b ∈ t.zk, SmBr b
theorem SmSt.sm {t : StT} (h : SmSt t) : StSm t := ⟨by have := h.q; omega, fun q hq => by have := (h.qs q hq).l; omega, by have := h.b; omega, by have := h.h; omega⟩
theorem adf {n c : Nat} (h : decide (c < n) = false) : n ≤ c := by have := jq h; omega
theorem ais {α : Type} {l : List α} {Q : α → Prop} {k : Nat} (hk : k < l.length) (h : ∀ x ∈ l.take k, Q x) (hx : Q l[k]) : ∀ x ∈ l.take (k + 1), Q x := by
 intro x hm
 rw [jx hk, List.mem_append, jc] at hm
 rcases hm with hm | rfl
 ·exact h x hm
 ·exact hx
theorem avd (w : World) (xf : Int) (xg xb : ByteArray) (pa : Option Addr) (pn pc : Nat) (ta : Option Addr) (tn tc : Nat) : Calls prog 24 #[.agg #[.int .u32 xf, .string xg, .string xb, .slice pa pn pc, .slice ta tn tc]] w fun e w' => e = .returned (.agg #[.int .u8 4, .string ⟨#[]⟩, .int .u64 0, .int .u32 xf, .string xg, .string xb, .slice pa pn pc, .slice ta tn tc]) ∧ Below w.heap.size w w' := by
 have zi := aty; have zx := ahk
 have hA := qq (((qz w.heap.size w).alloc (qj _) (.cells #[.int .u32 xf, .string xg, .string xb, .slice pa pn pc, .slice ta tn tc] 62)).alloc (by simp) (.cells #[.int .u8 4, .string ⟨#[]⟩, .int .u64 0, .int .u32 xf, .string xg, .string xb, .slice pa pn pc, .slice ta tn tc] 34))
 have K := qq (Blk.newE (w.alloc (.cells #[.int .u32 xf, .string xg, .string xb, .slice pa pn pc, .slice ta tn tc] 62)) [.int .u8 4, .string ⟨#[]⟩, .int .u64 0, .int .u32 xf, .string xg, .string xb, .slice pa pn pc, .slice ta tn tc] 34 (w.heap.size + 1) (by simp))
 have A := (Blk.new w [.int .u32 xf, .string xg, .string xb, .slice pa pn pc, .slice ta tn tc] 62).alloc (.cells #[.int .u8 4, .string ⟨#[]⟩, .int .u64 0, .int .u32 xf, .string xg, .string xb, .slice pa pn pc, .slice ta tn tc] 34)
 go_enter func24, ntmps24
 go_wp2
 have K := K.out; have hA := hA.out
 obtain ⟨k0, k1, k2, k3, k4, k5, k6, k7⟩ := K.a8
 refine bodyPost_ret (by simp [results, Tryz.results24, go_sem, k0, k1, k2, k3, k4, k5, k6, k7]; rfl) rfl ?_
 exact ⟨rfl, hA⟩
theorem ahv {P : Prop} (h : P := by
 go_wp2
 go_ret
 exact abi (hB1.trans (hBu.mono hB1.size))) : P := h
theorem apt (t : StT) (P : Nat → Prop) (w : World) (hR : StRd P w t) : Calls prog 7 #[t.arg] w (arc w.heap.size w (SmSt t)) := by
 obtain ⟨nx, qa, qc, ba, bc, ha, hc, qs, zk, hs, rfl, hq, hb, hh⟩ := hR.open
 rw [StT.arg_mk]
 have hB1 := (qz w.heap.size w).alloc (qj _) (.cells #[.int .u64 nx, .slice qa qs.length qc, .slice ba zk.length bc, .slice ha hs.length hc] 27)
 have A1 := Blk.new w [.int .u64 nx, .slice qa qs.length qc, .slice ba zk.length bc, .slice ha hs.length hc] 27
 have hRh := qq (hR.pure hB1)
 clear hR
 have a1 := A1.at 1 rfl; have a2 := A1.at 2 rfl; have a3 := A1.at 3 rfl
 obtain ⟨g1, g10⟩ := zz (decide (12 < qs.length))
 have g11 : decide ((12 : Int) < ((qs.length : Nat) : Int)) = g1 := by rw [← g10]; exact decide_eq_decide.2 (by omega)
 obtain ⟨g2, g20⟩ := zz (decide (12 < zk.length))
 have g21 : decide ((12 : Int) < ((zk.length : Nat) : Int)) = g2 := by rw [← g20]; exact decide_eq_decide.2 (by omega)
 obtain ⟨g3, g30⟩ := zz (decide (40 < hs.length))
 have g31 : decide ((40 : Int) < ((hs.length : Nat) : Int)) = g3 := by rw [← g30]; exact decide_eq_decide.2 (by omega)
 go_enter func7, ntmps7
 go_upto_region 1 with fail
 obtain ⟨u, hu⟩ := zj (w.alloc (.cells #[.int .u64 nx, .slice qa qs.length qc, .slice ba zk.length bc, .slice ha hs.length hc] 27))
 rw [← hu] at hB1 A1 a1 a2 a3 hRh ⊢
 clear hu
 cases g1
 rotate_left 1
 ·go_wp2
  go_ret; exact abi hB1
 cases g2
 rotate_left 1
 ·go_wp2
  go_ret; exact abi hB1
 cases g3
 rotate_left 1
 ·go_wp2
  go_ret; exact abi hB1
 have hq1 := adf g10; have hb1 := adf g20; have hh1 := adf g30
 have hqi : (qs.length : Int) ≤ 12 := by omega
 have hbi : (zk.length : Int) ≤ 12 := by omega
 go_wp2
 clear a1 a2 a3 g10 g11 g20 g21 g30 g31 hq hb hh
 go_loopw [3, 4] (fun s3 s4 wr => ∃ k : Nat, k ≤ qs.length ∧ s3 = .int .i64 k ∧ Hid (∀ q ∈ qs.take k, SmQu q) ∧ Below u.heap.size u wr) (fun s3 s4 _ => qs.length - (intOf s3).toNat)
 case atStart => exact ⟨0, Nat.zero_le _, rfl, qq (fun x h => by cases h), qz _ _⟩
 case round =>
  obtain ⟨k, hk, rfl, hall, hB⟩ := hrel; have A2 := A1.pure hB; have b1 := A2.at 1 rfl; have hR2 := hRh.out.pure hB; by_cases hkt : k < qs.length
  ·have hkti : (k : Int) < (qs.length : Int) := by omega
   have hS : Slc aar 3 wr (.slice qa qs.length qc) qs := hR2.q; obtain ⟨g, off, rfl⟩ := hS.addrB hkt; obtain ⟨name, lim, ma, mc, zw, hx, -, c0, c1, c2⟩ := aep hS hkt (hR2.m _ (qy hkt)); have hM := hR2.m _ (qy hkt); rw [hx] at hM; have hMh := qq hM; have hxh := qq hx; clear hM hx hS hR2; obtain ⟨g1, g10⟩ := zz (decide (40 < zw.length)); have g11 : decide ((40 : Int) < ((zw.length : Nat) : Int)) = g1 := by rw [← g10]; exact decide_eq_decide.2 (by omega)
   obtain ⟨g2, g20⟩ := zz (decide (200 < name.size)); have g21 : decide ((200 : Int) < ((name.size : Nat) : Int)) = g2 := by rw [← g20]; exact decide_eq_decide.2 (by omega)
   cases g1
   rotate_left 1
   ·go_wp2
    go_ret; exact abi (hB1.trans (hB.mono hB1.size))
   cases g2
   rotate_left 1
   ·go_wp2
    go_ret; exact abi (hB1.trans (hB.mono hB1.size))
   have hm1 := adf g10; have hmi : (zw.length : Int) ≤ 40 := by omega
   obtain ⟨wo, rfl⟩ := zj wr; have hBo := hB; have hallo := hall; clear hB hall; go_wp2; clear b1 c0 c1 c2 g10 g11 g20 g21; go_loopw [4] (fun s4 wr => ∃ j : Nat, j ≤ zw.length ∧ s4 = .int .i64 j ∧ Hid (∀ m ∈ zw.take j, m.body.size ≤ 5000 ∧ m.pr.key.size ≤ 1000 ∧ m.pr.mid.size ≤ 1000 ∧ V.Fit m.pr.app.v) ∧ Below wo.heap.size wo wr) (fun s4 _ => zw.length - (intOf s4).toNat)
   case atStart => exact ⟨0, Nat.zero_le _, rfl, qq (fun x h => by cases h), qz _ _⟩
   case round =>
    obtain ⟨j, hj, rfl, hall, hB⟩ := hrel; have A3 := A2.pure hB; have b1 := A3.at 1 rfl; have hBu := hBo.trans (hB.mono hBo.size); have hS := (hRh.out.pure hBu).q; obtain ⟨c0, c1, c2⟩ := aby hS hkt hxh.out; have hM := hMh.out.pure hB; by_cases hjt : j < zw.length
    ·have hjti : (j : Int) < (zw.length : Int) := by omega
     obtain ⟨g2, off2, rfl⟩ := hM.s.addrB hjt; obtain ⟨id, key, dur, red, mid, uk, un, us, uka, ukc, ula, ulc, uks, ul, body, hy, e0, e1, e2, e3, e4, e5, e6, e7, e8, e9, e10⟩ := aga hM.s hjt (hM.r _ (qy hjt)); have hsm := aje zw[j].pr P wr (hM.r _ (qy hjt)); rw [hy, PT.arg_mk] at hsm; have hsmh := qq hsm; have hyh := qq hy; clear hsm hy hM hS; obtain ⟨g1, g10⟩ := zz (decide (5000 < body.size)); have g11 : decide ((5000 : Int) < ((body.size : Nat) : Int)) = g1 := by rw [← g10]; exact decide_eq_decide.2 (by omega)
     cases g1
     rotate_left 1
     ·exact ahv
     have hb5 := adf g10; go_wp2_with fail; refine hsmh.out.mono ?_; rintro e w3 ⟨⟨b, rfl, hsb⟩, hB3⟩; have hsb := qq hsb; have hB4 := hBu.trans (hB3.mono hBu.size); have hB5 := hB.trans (hB3.mono hB.size); cases b
     ·go_wp2
      go_ret; exact abi (hB1.trans (hB4.mono hB1.size))
     ·go_wp2
      go_roundw
      case rel => exact ⟨j + 1, by omega, by go_num, qq (ais hjt hall.out (by rw [hyh.out]; exact ⟨hb5, hsb.out (by trivial)⟩)), hB5⟩
      case measure => simp [intOf]; omega
    ·obtain rfl : j = zw.length := by omega
     rw [js] at hall; go_wp2; go_roundw
     case rel => exact ⟨k + 1, by omega, by go_num, qq (ais hkt hallo.out (by rw [hxh.out]; exact ⟨hm1, hall.out⟩)), hBu⟩
     case measure => simp [intOf]; omega
  ·obtain rfl : k = qs.length := by omega
   rw [js] at hall; obtain ⟨wo, rfl⟩ := zj wr; have hBo := hB; have hallo := hall; clear hB hall hR2; go_wp2; clear b1; go_loopw [5] (fun s5 wr => ∃ k : Nat, k ≤ zk.length ∧ s5 = .int .i64 k ∧ Hid (∀ b ∈ zk.take k, SmBr b) ∧ Below wo.heap.size wo wr) (fun s5 _ => zk.length - (intOf s5).toNat)
   case atStart => exact ⟨0, Nat.zero_le _, rfl, qq (fun x h => by cases h), qz _ _⟩
   case round =>
    obtain ⟨k, hk, rfl, hall, hB⟩ := hrel; have A3 := A2.pure hB; have b2 := A3.at 2 rfl; have hBu := hBo.trans (hB.mono hBo.size); have hR3 := hRh.out.pure hBu; by_cases hkt : k < zk.length
    ·have hkti : (k : Int) < (zk.length : Int) := by omega
     have hS : Slc aa7 5 wr (.slice ba zk.length bc) zk := hR3.b; obtain ⟨g, off, rfl⟩ := hS.addrB hkt; obtain ⟨yf, yg, yb, pa, pc, ta, tc, zu, zy, hx, -, -, c0, c1, c2, c3, c4⟩ := adq hS hkt (hR3.e _ (qy hkt)); have hE := hR3.e _ (qy hkt); rw [hx] at hE; have hEh := qq (fun (v : World) (h : Below wr.heap.size wr v) => show Calls prog 23 #[.agg #[.int .u8 4, .string ⟨#[]⟩, .int .u64 0, .int .u32 yf, .string yg, .string yb, .slice pa zu.length pc, .slice ta zy.length tc]] v _ from akk (BrT.mk (yf, yg, yb) (.slice pa zu.length pc) (.slice ta zy.length tc) zu zy).en P v (hE.pure h)); have hxh := qq hx; clear hE hx hS hR3; obtain ⟨g1, g10⟩ := zz (decide (20 < zu.length)); have g11 : decide ((20 : Int) < ((zu.length : Nat) : Int)) = g1 := by rw [← g10]; exact decide_eq_decide.2 (by omega)
     obtain ⟨g2, g20⟩ := zz (decide (20 < zy.length)); have g21 : decide ((20 : Int) < ((zy.length : Nat) : Int)) = g2 := by rw [← g20]; exact decide_eq_decide.2 (by omega)
     cases g1
     rotate_left 1
     ·exact ahv
     cases g2
     rotate_left 1
     ·exact ahv
     have hp1 := adf g10; have ht1 := adf g20; go_wp2_with (first | (go_at_call 24; (with_reducible refine (avd _ yf yg yb pa zu.length pc ta zy.length tc).mono ?_); rintro e w3 ⟨rfl, hB3⟩)); refine (hEh.out _ hB3).mono ?_; rintro e w4 ⟨⟨b, rfl, hsb⟩, hB4⟩; have hsb := qq hsb; have hB6 := hB3.trans (hB4.mono hB3.size); have hB7 := hBu.trans (hB6.mono hBu.size); have hB5 := hB.trans (hB6.mono hB.size); cases b
     ·go_wp2
      go_ret; exact abi (hB1.trans (hB7.mono hB1.size))
     ·go_wp2
      go_roundw
      case rel => exact ⟨k + 1, by omega, by go_num, qq (ais hkt hall.out (by rw [hxh.out]; exact ⟨hp1, ht1, hsb.out (by trivial)⟩)), hB5⟩
      case measure => simp [intOf]; omega
    ·obtain rfl : k = zk.length := by omega
     rw [js] at hall; go_wp2; go_ret; exact ⟨⟨true, rfl, fun _ => ⟨hq1, hb1, hh1, hallo.out, hall.out⟩⟩, hB1.trans (hBu.mono hB1.size)⟩
structure CSt (w0 w : World) (lv : Value) (L : List PtT) : Prop where
 o : Own w0.heap.size 64 12 aat w lv L
 rd : ∀ x ∈ L, Rd (fun i => w0.heap.size ≤ i ∧ lv.ownBlock ≠ some i) w x.pr.app
 b : Below w0.heap.size w0 w
theorem CSt.upd {w0 w w' : World} {lv : Value} {L : List PtT} {S : Nat → Prop} (h : CSt w0 w lv L) (hu : Upd S w w') (hS : ∀ k, S k → w.heap.size ≤ k) : CSt w0 w' lv L :=
 ⟨h.o.upd hu (fun i hi e => by have h1 := h.o.lt hi; have h2 := hS _ e; omega), fun x hx => ((h.rd x hx).lt.upd hu (fun i hi e => by have h1 := hi.2; have h2 := hS _ e; omega)).weaken (fun i _ hi => hi.1), ag0 h.b hu (fun k e => jk h.b.size (hS k e)) h.b.size⟩
theorem CSt.pure {w0 w w' : World} {lv : Value} {L : List PtT} (h : CSt w0 w lv L) (hB : Below w.heap.size w w') : CSt w0 w' lv L := h.upd (Upd.of_below (S := fun _ => False) hB) (fun _ e => e.elim)
theorem CSt.app {w0 w w' : World} {lv : Value} {L : List PtT} {g cap : Nat} {t : PtT} (h : CSt w0 w lv L) (hO : Own w0.heap.size 64 12 aat w' (.slice (some ⟨g, 0, none⟩) (L.length + 1) cap) (L ++ [t])) (hg : w.grownBy w' lv.ownBlock) (hf : lv.ownBlock = some g ∨ g = w.heap.size)
 (ht : Rd (fun i => w0.heap.size ≤ i ∧ lv.ownBlock ≠ some i) w t.pr.app) : CSt w0 w' (.slice (some ⟨g, 0, none⟩) (L.length + 1) cap) (L ++ [t]) := by
 have hu : Upd (fun i => lv.ownBlock = some i) w w' := Upd.grown hg (fun i e => e)
 have hrd : ∀ x : VT, Rd (fun i => w0.heap.size ≤ i ∧ lv.ownBlock ≠ some i) w x → Rd (fun i => w0.heap.size ≤ i ∧ (Value.slice (some ⟨g, 0, none⟩) (L.length + 1) cap).ownBlock ≠ some i) w' x := fun x hx =>
  (hx.weaken (Q := fun i => (w0.heap.size ≤ i ∧ (Value.slice (some ⟨g, 0, none⟩) (L.length + 1) cap).ownBlock ≠ some i) ∧ lv.ownBlock ≠ some i) (fun i hi hm => ⟨⟨hm.1, fun e => by
   have e : some g = some i := e; rcases hf with hf | hf
   ·exact hm.2 (hf.trans e)
   ·injection e with e; omega⟩, hm.2⟩)).upd hu (fun i hi e => hi.2 e) |>.weaken (fun i _ hm => hm.1)
 refine ⟨hO, fun x hx => ?_, ag0 h.b hu (fun k e => h.o.ge e) h.b.size⟩
 rcases List.mem_append.1 hx with hx | hx
 ·exact hrd _ (h.rd x hx)
 ·rw [jc.1 hx]; exact hrd _ ht
theorem map_take {α β : Type} {f : α → β} {l : List α} {k : Nat} (h : k < l.length) {L : List α} (hL : L.map f = (l.take k).map f) {y : α} (hy : f y = f l[k]) : (L ++ [y]).map f = (l.take (k + 1)).map f := by
 rw [jx h, List.map_append, List.map_append, hL, List.map_cons, List.map_cons, hy, List.map_nil]
theorem aex (w : World) (la : Option Addr) (lc : Nat) (l : List PtT) (P : Nat → Prop) (hL : Slc aat 12 w (.slice la l.length lc) l) (hml : (l.length : Int) ≤ 110) (hsub : ∀ x ∈ l, Rd P w x.pr.app) (hsm : ∀ x ∈ l, SmPt x) :
 Calls prog 26 #[.slice la l.length lc] w fun e w' => ∃ (v : Value) (L : List PtT), e = .returned v ∧ L.map PtT.p = l.map PtT.p ∧ L.length = l.length ∧ CSt w w' v L := by
 have hsubh := qq hsub; have hsmh := qq hsm
 clear hsub hsm
 go_enter func26, ntmps26
 go_wp2
 go_loopw [3, 4] (fun s3 s4 wr => ∃ (k : Nat) (L : List PtT), k ≤ l.length ∧ s4 = .int .i64 (k : Int) ∧ CSt w wr s3 L ∧ Hid (L.map PtT.p = (l.take k).map PtT.p) ∧ Hid (L.length = k)) (fun _ s4 _ => l.length - (intOf s4).toNat)
 case atStart => exact ⟨0, [], by omega, rfl, ⟨Own.nil, fun x hx => jp hx (by simp), qz _ _⟩, qq (by simp), qq rfl⟩
 case round =>
  obtain ⟨k, L, hk, rfl, hC, hmp, hln⟩ := hrel; obtain ⟨oa, oc, rfl⟩ := aap hC.o; by_cases hlt : k < l.length
  ·have h1 : (k : Int) < (l.length : Int) := by omega
   have hLr := hL.pure hC.b; obtain ⟨g0, off, rfl⟩ := hLr.addrB hlt; have hRk := (hsubh.out l[k] (qy hlt)).pure hC.b; have hfk := hsmh.out l[k] (qy hlt); obtain ⟨q, id, key, dur, red, mid, uk, un, us, uka, ukc, ula, ulc, uks, ul, body, hx, c0, c1, c2, c3, c4, c5, c6, c7, c8, c9, c10, c11⟩ := ad5 hLr hlt hRk; have hst := qq (fun (y : PtT) (hy : y.p = (PtT.mk q id (PT.mk key dur red mid (VT.mk uk un us (.slice uka uks.length ukc) (.slice ula ul.length ulc) uks ul)) body).p) => show (L ++ [y]).map PtT.p = (l.take (k + 1)).map PtT.p from map_take hlt hmp.out (by rw [hx]; exact hy)); rw [hx] at hRk hfk; have hRk : Rd P wr (VT.mk uk un us (.slice uka uks.length ukc) (.slice ula ul.length ulc) uks ul) := hRk; have hfit := qq (show V.Fit (VT.mk uk un us (.slice uka uks.length ukc) (.slice ula ul.length ulc) uks ul).v from hfk.fit); have hD := (qz wr.heap.size wr).alloc (qj _) (.cells #[.string q, .int .u64 id, .string key, .bool dur, .bool red, .string mid, .int .u8 uk, .int .u64 un, .string us, .slice uka uks.length ukc, .slice ula ul.length ulc, .string body] 64); have B5 := Blk.new wr [.string q, .int .u64 id, .string key, .bool dur, .bool red, .string mid, .int .u8 uk, .int .u64 un, .string us, .slice uka uks.length ukc, .slice ula ul.length ulc, .string body] 64; have hR5 := hRk.pure hD; have hCh := qq hC; have hz5 := qq (show w.heap.size ≤ wr.heap.size from hC.b.size); clear hx hfk hRk hLr hC; obtain ⟨b0, b1, b2, b3, b4, b5, b6, b7, b8, b9, b10, b11⟩ := B5.a12; have d9 := ale (PT.mk key dur red mid (VT.mk uk un us (.slice uka uks.length ukc) (.slice ula ul.length ulc) uks ul)) P _ hR5 hfit.out; rw [PT.arg_mk] at d9; have d9h := qq d9; clear d9; go_upto_region 7 with (go_at_call 25; (with_reducible refine (d9h.out).mono ?_); rintro e w6 ⟨⟨keyc, durc, redc, midc, cv⟩, he, hcp, hcR, hB6⟩; have hcR : Rd _ _ cv := hcR; have B6 := B5.pure hB6; have hU6 : Upd (fun k => wr.heap.size ≤ k) wr w6 := Upd.of_below (hD.trans (hB6.mono hD.size)); obtain ⟨ck, cn, cs, cka, ckc, cla, clc, cks, cl, rfl, -⟩ := hcR.open; rw [PT.arg_mk] at he; subst he; have hcph := qq hcp; clear hcp; clear b0 b1 b2 b3 b4 b5 b6 b7 b8 b9 b10 b11; have b2 := B6.at 2 rfl; have b3 := B6.at 3 rfl; have b4 := B6.at 4 rfl; have b5 := B6.at 5 rfl; have b6 := B6.at 6 rfl; have b7 := B6.at 7 rfl; have b8 := B6.at 8 rfl; have b9 := B6.at 9 rfl; have b10 := B6.at 10 rfl; have y2 := B6.frozen 2; have y3 := B6.frozen 3; have y4 := B6.frozen 4; have y5 := B6.frozen 5; have y6 := B6.frozen 6; have y7 := B6.frozen 7; have y8 := B6.frozen 8; have y9 := B6.frozen 9; have y10 := B6.frozen 10); have hu7 := Upd.atPr w6 wr.heap.size (.string keyc) (.bool durc) (.bool redc) (.string midc) (.int .u8 ck) (.int .u64 cn) (.string cs) (.slice cka cks.length ckc) (.slice cla cl.length clc); have B7 := B6.atPr (.string keyc) (.bool durc) (.bool redc) (.string midc) (.int .u8 ck) (.int .u64 cn) (.string cs) (.slice cka cks.length ckc) (.slice cla cl.length clc); have hwl := qq (show (wr.alloc (.cells #[.string q, .int .u64 id, .string key, .bool dur, .bool red, .string mid, .int .u8 uk, .int .u64 un, .string us, .slice uka uks.length ukc, .slice ula ul.length ulc, .string body] 64)).heap.size = wr.heap.size + 1 by simp); have hb6 := qq (show wr.heap.size + 1 ≤ w6.heap.size by have := hB6.size; have := hwl.out; omega); have R7 := hcR.upd hu7 (fun b hb e => by have := hwl.out; omega); have C7 : CSt w (aw1 w6 wr.heap.size (.string keyc) (.bool durc) (.bool redc) (.string midc) (.int .u8 ck) (.int .u64 cn) (.string cs) (.slice cka cks.length ckc) (.slice cla cl.length clc)) (.slice oa L.length oc) L := hCh.out.upd (hU6.trans hu7 (fun k e _ => by omega)) (fun k e => e); unfold aw1 at hu7 B7 R7 C7; generalize World.setCell (World.setCell (World.setCell (World.setCell (World.setCell (World.setCell (World.setCell (World.setCell (World.setCell w6 _ _) _ _) _ _) _ _) _ _) _ _) _ _) _ _) _ _ = w7 at *; clear b2 y2 b3 y3 b4 y4 b5 y5 b6 y6 b7 y7 b8 y8 b9 y9 b10 y10 B5 B6; obtain ⟨b0, b1, b2, b3, b4, b5, b6, b7, b8, b9, b10, b11⟩ := B7.a12; have hA8 := (qz w7.heap.size w7).alloc (qj _) (.cells #[.string q, .int .u64 id, .string keyc, .bool durc, .bool redc, .string midc, .int .u8 ck, .int .u64 cn, .string cs, .slice cka cks.length ckc, .slice cla cl.length clc, .string body] 64); have C8 := C7.pure hA8; have bx := Blk.new w7 [.string q, .int .u64 id, .string keyc, .bool durc, .bool redc, .string midc, .int .u8 ck, .int .u64 cn, .string cs, .slice cka cks.length ckc, .slice cla cl.length clc, .string body] 64; have t8 := (R7.weaken (fun i _ hi => (show w.heap.size ≤ i ∧ (Value.slice oa L.length oc).ownBlock ≠ some i from ⟨by have := hwl.out; have := hz5.out; omega, fun e => by have := hCh.out.o.lt e; have := hwl.out; omega⟩))).pure hA8; have hln2 := qq (show L.length < 110 by have := hln.out; omega); go_wp2_with (at_builtin; refine aaq (base := w.heap.size) rfl (.tmp 20) (.tmp 22) 31 64 rfl aw2 aae _ L rfl C8.o _ 1 (PtT.mk q id (PT.mk keyc durc redc midc (VT.mk ck cn cs (.slice cka cks.length ckc) (.slice cla cl.length clc) cks cl)) body) (by simp [aat, VT.k, VT.n, VT.s, VT.kv, VT.lv, Value.oneCell']) rfl (fun j u hu => (bx.cell j).trans hu) (by have := hln2.out; omega) (by have := hln2.out; unfold maxLen; omega) C8.b.size ?_; intro g cap w9 hO9 hgr9 hf9; have C9 := C8.app hO9 hgr9 hf9 t8); go_roundw
   case rel => exact ⟨k + 1, _, by omega, by go_num, C9, qq (hst.out _ (by show Pt.mk q id (PT.mk keyc durc redc midc (VT.mk ck cn cs (.slice cka cks.length ckc) (.slice cla cl.length clc) cks cl)).p body = _; rw [hcph.out]; rfl)), qq (by have := hln.out; simp; omega)⟩
   case measure => simp [intOf]; omega
  ·obtain rfl : k = l.length := by omega
   go_wp2; go_ret; exact ⟨_, L, rfl, by rw [hmp.out, js], hln.out, hC⟩
end Go.Proofs.YtgnaifhmcllnlaaGreatDoor
