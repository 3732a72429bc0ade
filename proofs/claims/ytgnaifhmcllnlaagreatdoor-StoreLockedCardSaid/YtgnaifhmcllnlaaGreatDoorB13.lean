/- The head of chapter 13's laws. Conditions: utf8's tables are laid. Written by gen_enK.py. (Texts joined.) -/
import Derived.Test.YtgnaifhmcllnlaaGreatDoorB12
set_option maxRecDepth 100000
set_option maxHeartbeats 12800000
set_option linter.unusedSimpArgs false
set_option linter.unusedVariables false
namespace Go.Proofs.YtgnaifhmcllnlaaGreatDoor
open Go.RowKit Tryz
theorem alz {t : StT} {s : St} (h : t.s = s) (H : s.qs.length ≤ 100) (E : ∀ q ∈ s.qs, q.zw.length ≤ 100) (G : s.zk.length ≤ 100) (F : s.hs.length ≤ 100) : StSm t := by
 subst h
 refine ⟨?_, fun q A => ?_, ?_, ?_⟩
 ·have : (t.qs.map QuT.q).length ≤ 100 := H
  rw [jf] at this; omega
 ·have := E q.q (jw A)
  have : (q.zw.map MsT.m).length ≤ 100 := this; rw [jf] at this; omega
 ·have : (t.zk.map BrT.b).length ≤ 100 := G
  rw [jf] at this; omega
 ·have : t.hs.length ≤ 100 := F
  omega
theorem ahc (bu : ayk) (w : World) (hT : Tb w) : Calls prog 9 #[] w fun e w' => e = .returned (.bool true) ∧ Below w.heap.size w w' := by
 have ba := qq bu; have bf := qq hT
 have c0 : Calls prog 12 #[.agg #[.int .u64 1, .slice none 0 0, .slice none 0 0, .slice none 0 0], .agg #[.int .u8 1, .string ⟨#[113]⟩, .int .u64 9, .int .u32 0, .string ⟨#[]⟩, .string ⟨#[]⟩, .slice none 0 0, .slice none 0 0]] w _ := afd bu axy w bd0 ⟨1, hdQ, 9, Xn.zero, .slice none 0 0, .slice none 0 0, [], []⟩ _ (bab 0 w).rd (an8 w 1 9 hdQ Xn.zero (by omega) (by omega) (by decide)) hT (alz (s := hdS0) rfl (by decide) (by decide) (by decide) (by decide)) (s := hdS0) rfl hd0
 have h0 := qq c0
 clear c0
 clear bu hT
 go_enter func9, ntmps9
 go_upto_region 2 with (go_at_call 12; (with_reducible refine h0.out.mono ?_); rintro e w1 ⟨t1, rfl, cs, b6, cw⟩; obtain ⟨n1, az, an, au, ao, ay, aw, ad, ac, ah, rfl⟩ := b6.open; rw [StT.arg_mk]; have cm := qq cs; clear cs)
 have b9 := (qz w.heap.size w).trans (cw.mono (((qz w.heap.size w)).size))
 have bj := (qz w1.heap.size w1).alloc (qj _) (.cells #[.int .u64 n1, .slice az ad.length an, .slice au ac.length ao, .slice ay ah.length aw] 27)
 have S1 := Blk.new w1 [.int .u64 n1, .slice az ad.length an, .slice au ac.length ao, .slice ay ah.length aw] 27
 have D1 := b9.trans (bj.mono b9.size)
 have O1 := b6.upd (Upd.of_below (S := fun _ => False) bj) (fun _ e => e.elim)
 obtain ⟨I, cv⟩ := zj (w1.alloc (.cells #[.int .u64 n1, .slice az ad.length an, .slice au ac.length ao, .slice ay ah.length aw] 27))
 rw [← cv] at S1 D1 O1 ⊢
 clear cv bj b9 b6 cw
 have ch := (qz I.heap.size I).alloc (qj _) (.cells #[.string ⟨#[113]⟩, .int .u64 1, .string ⟨#[]⟩, .bool false, .bool false, .string ⟨#[]⟩, .int .u8 0, .int .u64 0, .string ⟨#[]⟩, .slice none 0 0, .slice none 0 0, .string ⟨#[97]⟩] 64)
 have E2 := D1.trans (ch.mono D1.size)
 have cj : Calls prog 12 #[.agg #[.int .u64 n1, .slice az ad.length an, .slice au ac.length ao, .slice ay ah.length aw], .agg #[.int .u8 3, .string ⟨#[]⟩, .int .u64 0, .int .u32 0, .string ⟨#[]⟩, .string ⟨#[]⟩, .slice (some ⟨I.heap.size, 0, none⟩) 1 1, .slice none 0 0]] (I.alloc (.cells #[.string ⟨#[113]⟩, .int .u64 1, .string ⟨#[]⟩, .bool false, .bool false, .string ⟨#[]⟩, .int .u8 0, .int .u64 0, .string ⟨#[]⟩, .slice none 0 0, .slice none 0 0, .string ⟨#[97]⟩] 64)) _ := afd ba.out bb6 (I.alloc (.cells #[.string ⟨#[113]⟩, .int .u64 1, .string ⟨#[]⟩, .bool false, .bool false, .string ⟨#[]⟩, .int .u8 0, .int .u64 0, .string ⟨#[]⟩, .slice none 0 0, .slice none 0 0, .string ⟨#[97]⟩] 64)) (StT.mk n1 (.slice az ad.length an) (.slice au ac.length ao) (.slice ay ah.length aw) ad ac ah) ⟨3, ⟨#[]⟩, 0, Xn.zero, .slice (some ⟨I.heap.size, 0, none⟩) 1 1, .slice none 0 0, [⟨hdQ, 1, ⟨⟨#[]⟩, false, false, ⟨#[]⟩, VT.zero⟩, ⟨#[97]⟩⟩], []⟩ _ ((O1.rd.pure ch).weaken (fun _ _ => trivial)) (bb8 (P := fun _ => True) (I.alloc (.cells #[.string ⟨#[113]⟩, .int .u64 1, .string ⟨#[]⟩, .bool false, .bool false, .string ⟨#[]⟩, .int .u8 0, .int .u64 0, .string ⟨#[]⟩, .slice none 0 0, .slice none 0 0, .string ⟨#[97]⟩] 64)) I.heap.size ⟨hdQ, 1, ⟨⟨#[]⟩, false, false, ⟨#[]⟩, VT.zero⟩, ⟨#[97]⟩⟩ (Blk.new I [.string ⟨#[113]⟩, .int .u64 1, .string ⟨#[]⟩, .bool false, .bool false, .string ⟨#[]⟩, .int .u8 0, .int .u64 0, .string ⟨#[]⟩, .slice none 0 0, .slice none 0 0, .string ⟨#[97]⟩] 64) VT.zero_rd (by decide)) (bf.out.pure E2) (alz cm.out (by decide) (by decide) (by decide) (by decide)) cm.out hd1
 have h2 := qq cj
 clear cj
 obtain ⟨K, s1, s2, s3⟩ := S1.a4
 go_upto_region 3 with (go_at_call 12; (with_reducible refine h2.out.mono ?_); rintro e w2 ⟨t2, rfl, cx, cf, cr⟩; obtain ⟨n2, aq, al, ak, av, am, ax, ag, aa, ai, rfl⟩ := cf.open; rw [StT.arg_mk]; have bx := qq cx; clear cx)
 clear K s1 s2 s3 h2
 have bt := E2.trans (cr.mono ((E2).size))
 have bi := (qz w2.heap.size w2).alloc (qj _) (.cells #[.int .u64 n2, .slice aq ag.length al, .slice ak aa.length av, .slice am ai.length ax] 27)
 have A := Blk.new w2 [.int .u64 n2, .slice aq ag.length al, .slice ak aa.length av, .slice am ai.length ax] 27
 have D2 := bt.trans (bi.mono bt.size)
 have O2 := cf.upd (Upd.of_below (S := fun _ => False) bi) (fun _ e => e.elim)
 obtain ⟨J, cl⟩ := zj (w2.alloc (.cells #[.int .u64 n2, .slice aq ag.length al, .slice ak aa.length av, .slice am ai.length ax] 27))
 rw [← cl] at A D2 O2 ⊢
 clear cl bi bt cf cr
 have bg := (qz J.heap.size J).alloc (qj _) (.cells #[.string ⟨#[113]⟩, .int .u64 1] 68)
 have E3 := D2.trans (bg.mono D2.size)
 have cy : Calls prog 12 #[.agg #[.int .u64 n2, .slice aq ag.length al, .slice ak aa.length av, .slice am ai.length ax], .agg #[.int .u8 4, .string ⟨#[]⟩, .int .u64 0, .int .u32 0, .string ⟨#[120]⟩, .string ⟨#[]⟩, .slice none 0 0, .slice (some ⟨J.heap.size, 0, none⟩) 1 1]] (J.alloc (.cells #[.string ⟨#[113]⟩, .int .u64 1] 68)) _ := afd ba.out au7 (J.alloc (.cells #[.string ⟨#[113]⟩, .int .u64 1] 68)) (StT.mk n2 (.slice aq ag.length al) (.slice ak aa.length av) (.slice am ai.length ax) ag aa ai) ⟨4, ⟨#[]⟩, 0, hdX, .slice none 0 0, .slice (some ⟨J.heap.size, 0, none⟩) 1 1, [], [⟨hdQ, 1⟩]⟩ _ ((O2.rd.pure bg).weaken (fun _ _ => trivial)) (bac (J.alloc (.cells #[.string ⟨#[113]⟩, .int .u64 1] 68)) J.heap.size hdX ⟨hdQ, 1⟩ (Blk.new J [.string ⟨#[113]⟩, .int .u64 1] 68) (by decide) (by decide)) (bf.out.pure E3) (alz bx.out (by decide) (by decide) (by decide) (by decide)) bx.out hd2
 have h3 := qq cy
 clear cy
 obtain ⟨K, s1, s2, s3⟩ := A.a4
 go_upto_region 4 with (go_at_call 12; (with_reducible refine h3.out.mono ?_); rintro e w3 ⟨t3, rfl, cn, b5, b2⟩; obtain ⟨z, U, X, W, Y, Z, O, G, F, H, rfl⟩ := b5.open; rw [StT.arg_mk]; have bb := qq cn; clear cn)
 clear K s1 s2 s3 h3
 have A := (A.pure bg).pure b2
 have bw := E3.trans (b2.mono ((E3).size))
 have a1 := (qz w3.heap.size w3).alloc (qj _) (.cells #[.int .u64 z, .slice U G.length X, .slice W F.length Y, .slice Z H.length O] 27)
 have N := Blk.new w3 [.int .u64 z, .slice U G.length X, .slice W F.length Y, .slice Z H.length O] 27
 have D3 := bw.trans (a1.mono bw.size)
 have M := b5.upd (Upd.of_below (S := fun _ => False) a1) (fun _ e => e.elim)
 obtain ⟨u3, cq⟩ := zj (w3.alloc (.cells #[.int .u64 z, .slice U G.length X, .slice W F.length Y, .slice Z H.length O] 27))
 have A := A.pure a1
 rw [← cq] at N D3 M A ⊢
 clear cq a1 bw b5 b2
 have cp : Calls prog 12 #[.agg #[.int .u64 z, .slice U G.length X, .slice W F.length Y, .slice Z H.length O], .agg #[.int .u8 2, .string ⟨#[113]⟩, .int .u64 0, .int .u32 0, .string ⟨#[]⟩, .string ⟨#[]⟩, .slice none 0 0, .slice none 0 0]] u3 _ := afd ba.out baa u3 (StT.mk z (.slice U G.length X) (.slice W F.length Y) (.slice Z H.length O) G F H) ⟨2, hdQ, 0, Xn.zero, .slice none 0 0, .slice none 0 0, [], []⟩ _ M.rd (an8 u3 2 0 hdQ Xn.zero (by omega) (by omega) (by decide)) (bf.out.pure D3) (alz bb.out (by decide) (by decide) (by decide) (by decide)) bb.out (show hdS3.ap hdE3 = ((hdS3.ap hdE3).1, 9) from Prod.ext rfl hd3)
 have h4 := qq cp
 clear cp
 obtain ⟨K, s1, s2, s3⟩ := N.a4
 go_upto_region 5 with (go_at_call 12; (with_reducible refine h4.out.mono ?_); rintro e w4 ⟨t4, rfl, cu, ca, ar⟩; obtain ⟨n4, cb, cd, br, b7, bk, bn, bq, bh, b8, rfl⟩ := ca.open; rw [StT.arg_mk]; have c2 := qq cu; clear cu)
 clear K s1 s2 s3 h4
 have A := A.pure ar; have N := N.pure ar; have M := M.upd (Upd.of_below (S := fun _ => False) ar) (fun _ e => e.elim)
 have ce := D3.trans (ar.mono ((D3).size))
 have ab := (qz w4.heap.size w4).alloc (qj _) (.cells #[.int .u64 n4, .slice cb bq.length cd, .slice br bh.length b7, .slice bk b8.length bn] 27)
 have S4 := Blk.new w4 [.int .u64 n4, .slice cb bq.length cd, .slice br bh.length b7, .slice bk b8.length bn] 27
 have D4 := ce.trans (ab.mono ce.size)
 have O4 := ca.upd (Upd.of_below (S := fun _ => False) ab) (fun _ e => e.elim)
 obtain ⟨u4, ci⟩ := zj (w4.alloc (.cells #[.int .u64 n4, .slice cb bq.length cd, .slice br bh.length b7, .slice bk b8.length bn] 27))
 have A := A.pure ab; have N := N.pure ab; have M := M.upd (Upd.of_below (S := fun _ => False) ab) (fun _ e => e.elim)
 rw [← ci] at S4 D4 O4 A N M ⊢
 clear ci ab ce ca ar
 have ct : Calls prog 12 #[.agg #[.int .u64 z, .slice U G.length X, .slice W F.length Y, .slice Z H.length O], .agg #[.int .u8 6, .string ⟨#[]⟩, .int .u64 0, .int .u32 0, .string ⟨#[120]⟩, .string ⟨#[]⟩, .slice none 0 0, .slice none 0 0]] u4 _ := afd ba.out au8 u4 (StT.mk z (.slice U G.length X) (.slice W F.length Y) (.slice Z H.length O) G F H) ⟨6, ⟨#[]⟩, 0, hdX, .slice none 0 0, .slice none 0 0, [], []⟩ _ M.rd (an8 u4 6 0 ⟨#[]⟩ hdX (by omega) (by omega) (by decide)) (bf.out.pure D4) (alz bb.out (by decide) (by decide) (by decide) (by decide)) bb.out hd4
 have h5 := qq ct
 clear ct
 obtain ⟨K, s1, s2, s3⟩ := N.a4
 go_upto_region 6 with (go_at_call 12; (with_reducible refine h5.out.mono ?_); rintro e w5 ⟨t5, rfl, cz, b4, bo⟩; obtain ⟨n5, bm, b0, b3, cc, bp, bl, ae, aj, cg, rfl⟩ := b4.open; rw [StT.arg_mk]; have co := qq cz; clear cz)
 clear K s1 s2 s3 h5
 have A := A.pure bo
 have b1 := D4.trans (bo.mono ((D4).size))
 have a0 := (qz w5.heap.size w5).alloc (qj _) (.cells #[.int .u64 n5, .slice bm ae.length b0, .slice b3 aj.length cc, .slice bp cg.length bl] 27)
 have S5 := Blk.new w5 [.int .u64 n5, .slice bm ae.length b0, .slice b3 aj.length cc, .slice bp cg.length bl] 27
 have D5 := b1.trans (a0.mono b1.size)
 have O5 := b4.upd (Upd.of_below (S := fun _ => False) a0) (fun _ e => e.elim)
 obtain ⟨u5, ck⟩ := zj (w5.alloc (.cells #[.int .u64 n5, .slice bm ae.length b0, .slice b3 aj.length cc, .slice bp cg.length bl] 27))
 have A := A.pure a0
 rw [← ck] at S5 D5 O5 A ⊢
 clear ck a0 b1 b4 bo
 obtain rfl : n2 = 2 := congrArg St.next bx.out
 have e5 : ae.map QuT.q = (hdS2 true).qs := congrArg St.qs co.out
 obtain ⟨E, rfl⟩ : ∃ q, ae = [q] := by
  cases ae with
  | nil => simp at e5
  | cons q l => cases l with
   | nil => exact ⟨q, rfl⟩
   | cons => simp at e5
 have e6 : aj.map BrT.b = [] := congrArg St.zk co.out
 obtain rfl : aj = [] := List.map_eq_nil_iff.1 e6
 have h : E.zw.map MsT.m = [⟨1, hdP true, ⟨#[97]⟩⟩] := congrArg Qu.zw (List.cons.inj e5).1
 obtain ⟨m5, af⟩ : ∃ m, E.zw = [m] := by
  rcases hq5 : E.zw with _ | ⟨m, l⟩
  ·rw [hq5] at h; simp at h
  ·cases l with
   | nil => exact ⟨m, rfl⟩
   | cons => rw [hq5] at h; simp at h
 rw [af] at h
 have e8 : m5.pr.red = true := congrArg (fun x => x.pr.red) (List.cons.inj h).1
 obtain ⟨gq, rfl, -⟩ := abr O5.q (show 0 < [E].length from Nat.zero_lt_one)
 have bd := O5.m E (jc.2 rfl)
 obtain ⟨ma, mc, bc, -⟩ : ∃ a c, E.mv = .slice a E.zw.length c ∧ E.zw.length ≤ maxLen := (bd.slc aac).len
 obtain ⟨gm, rfl, -⟩ := abr (bc ▸ bd) (show 0 < E.zw.length by rw [af]; exact Nat.zero_lt_one)
 have d2 : u5.cell? ⟨gq, 2, none⟩ = some (.slice (some ⟨gm, 0, none⟩) 1 mc) := O5.q.cell aaf 0 (show 0 < [E].length from Nat.zero_lt_one) 2 _ (by show some (one E.mv) = _; rw [bc, af]; rfl)
 have g3 : u5.cell? ⟨gm, 3, none⟩ = some (.bool true) := by
  have c1 := Own.cell aac (bc ▸ bd) 0 (show 0 < E.zw.length by rw [af]; exact Nat.zero_lt_one) 3 (.bool true) (by simp only [af]; show some (Value.bool m5.pr.red) = _; rw [e8])
  simpa using c1
 have K := A.at 0 rfl
 have y1 := S5.at 1 rfl; have y2 := S5.at 2 rfl
 clear e5 e6 h e8 af bc bd
 go_wp2
 go_ret
 exact ⟨rfl, D5⟩
theorem OwL.upd {α : Type} {e m : Nat} {enc : α → List Value} {app : α → VT} {B : Nat} {S : Nat → Prop} {w w' : World} {v : Value} {L : List α} (h : OwL e m enc app B w v L) (E : Upd S w w') (F : ∀ i, B ≤ i → i < w.heap.size → ¬ S i) : OwL e m enc app B w' v L :=
 ⟨h.o.upd E (fun k A e => F k (h.o.ge A) (h.o.lt A) e), fun x G => ((h.r x G).lt.upd E (fun i hi e => F i hi.1.1 hi.2 e)).weaken (fun i _ hi => hi.1)⟩
theorem OwL.app {α : Type} {e m : Nat} {enc : α → List Value} {app : α → VT} {B : Nat} {w w' : World} {v : Value} {L : List α} {g E : Nat} {x : α} (h : OwL e m enc app B w v L) (J : Own B e m enc w' (.slice (some ⟨g, 0, none⟩) (L.length + 1) E) (L ++ [x])) (G : w.grownBy w' v.ownBlock) (A : v.ownBlock = some g ∨ g = w.heap.size)
 (H : Rd (fun i => B ≤ i ∧ v.ownBlock ≠ some i) w (app x)) : OwL e m enc app B w' (.slice (some ⟨g, 0, none⟩) (L.length + 1) E) (L ++ [x]) := by
 have I : Upd (fun i => v.ownBlock = some i) w w' := Upd.grown G (fun i e => e)
 have F : ∀ y : VT, Rd (fun i => B ≤ i ∧ v.ownBlock ≠ some i) w y → Rd (fun i => B ≤ i ∧ Value.ownBlock (.slice (some ⟨g, 0, none⟩) (L.length + 1) E) ≠ some i) w' y := fun y hy =>
  (hy.lt.upd I (fun i hi e => hi.1.2 e)).weaken (fun i _ hi => ⟨hi.1.1, fun e => by
   have e : g = i := by simpa [Value.ownBlock] using e
   rcases A with A | A
   ·exact hi.1.2 (by rw [A, e])
   ·have := hi.2; omega⟩)
 refine ⟨J, fun y hy => ?_⟩
 rcases List.mem_append.1 hy with hy | hy
 ·exact F _ (h.r y hy)
 ·rw [jc.1 hy]; exact F _ H
structure Cp {α β : Type} (T n : Nat) (enc : α → List Value) (sv : α → Value) (sl : α → List β) (T2 n2 : Nat) (enc2 : β → List Value) (app : β → VT) (B : Nat) (w : World) (v : Value) (D : List α) : Prop where
 o : Own B T n enc w v D
 s : ∀ a ∈ D, Own B T2 n2 enc2 w (sv a) (sl a)
 d : D.Pairwise (fun a b => ∀ i, (sv a).ownBlock = some i → (sv b).ownBlock ≠ some i)
 r : ∀ a ∈ D, ∀ x ∈ sl a, Rd (fun i => B ≤ i ∧ v.ownBlock ≠ some i ∧ ∀ a' ∈ D, (sv a').ownBlock ≠ some i) w (app x)
section
variable {α β : Type} {T n : Nat} {enc : α → List Value} {sv : α → Value} {sl : α → List β} {T2 n2 : Nat} {enc2 : β → List Value} {app : β → VT} {B : Nat} {w w' : World} {v : Value} {D : List α}
theorem Cp.nil (B : Nat) (w : World) : Cp T n enc sv sl T2 n2 enc2 app B w (.slice none 0 0) ([] : List α) := ⟨Own.nil, fun a h => (by cases h), List.Pairwise.nil, fun a h => (by cases h)⟩
theorem Cp.upd {S : Nat → Prop} (h : Cp T n enc sv sl T2 n2 enc2 app B w v D) (G : Upd S w w') (F : ∀ i, S i → i < B ∨ w.heap.size ≤ i) : Cp T n enc sv sl T2 n2 enc2 app B w' v D :=
 ⟨h.o.upd G (fun k E e => by have H := h.o.ge E; have I := h.o.lt E; rcases F k e with h | h <;> omega), fun a A => (h.s a A).upd G (fun k E e => by have H := (h.s a A).ge E; have I := (h.s a A).lt E; rcases F k e with h | h <;> omega), h.d,
  fun a A x J => ((h.r a A x J).lt.upd G (fun i hi e => by have H := hi.1.1; have I := hi.2; rcases F i e with h | h <;> omega)).weaken (fun i _ hi => hi.1)⟩
theorem Cp.pure (h : Cp T n enc sv sl T2 n2 enc2 app B w v D) (A : Below w.heap.size w w') : Cp T n enc sv sl T2 n2 enc2 app B w' v D := h.upd (Upd.of_below (S := fun _ => False) A) (fun _ e => e.elim)
theorem Cp.add {w0 : World} {g I : Nat} {x : α} (h : Cp T n enc sv sl T2 n2 enc2 app B w0 v D) (O : B ≤ w0.heap.size) (M : Below w0.heap.size w0 w) (X : T ≠ T2) (F : OwL T2 n2 enc2 app w0.heap.size w (sv x) (sl x))
 (hO : Own B T n enc w' (.slice (some ⟨g, 0, none⟩) (D.length + 1) I) (D ++ [x])) (z : w.grownBy w' v.ownBlock) (Y : v.ownBlock = some g ∨ g = w.heap.size) : Cp T n enc sv sl T2 n2 enc2 app B w' (.slice (some ⟨g, 0, none⟩) (D.length + 1) I) (D ++ [x]) := by
 have N := h.pure M
 have G : Upd (fun i => v.ownBlock = some i) w w' := Upd.grown z (fun i e => e)
 have U : ∀ i, Value.ownBlock (.slice (some ⟨g, 0, none⟩) (D.length + 1) I) = some i → v.ownBlock = some i ∨ i = w.heap.size := fun i e => by
  have e : g = i := by simpa [Value.ownBlock] using e
  rw [← e]; exact Y
 have aa := M.size
 have H : ∀ i, v.ownBlock = some i → i < w0.heap.size := fun i e => h.o.lt e
 refine ⟨hO, fun a A => ?_, List.pairwise_append.2 ⟨h.d, List.pairwise_singleton _ _, fun a A b Z i e1 W => ?_⟩, fun a A y hy => ?_⟩
 ·rcases List.mem_append.1 A with A | A
  ·exact (N.s a A).upd G (fun k K e => aaz N.o (N.s a A) X e K)
  ·rw [jc.1 A]
   exact (F.o.rebase (fun k e => jk O (F.o.ge e))).upd G (fun k K e => by have := H k e; have := F.o.ge K; omega)
 ·rw [jc.1 Z] at W
  have := (h.s a A).lt e1; have := F.o.ge W; omega
 ·rcases List.mem_append.1 A with A | A
  ·refine (((h.r a A y hy).lt.pure M).upd G (fun i hi e => hi.1.2.1 e)).weaken (fun i _ hi => ⟨hi.1.1, fun e => ?_, fun J E e => ?_⟩)
   ·rcases U i e with e | e
    ·exact hi.1.2.1 e
    ·have := hi.2; omega
   ·rcases List.mem_append.1 E with E | E
    ·exact hi.1.2.2 J E e
    ·rw [jc.1 E] at e
     have := F.o.ge e; have := hi.2; omega
  ·rw [jc.1 A] at hy
   refine ((F.r y hy).lt.upd G (fun i hi e => by have := H i e; have := hi.1.1; omega)).weaken (fun i _ hi => ⟨jk O hi.1.1, fun e => ?_, fun J E e => ?_⟩)
   ·rcases U i e with e | e
    ·have := H i e; have := hi.1.1; omega
    ·have := hi.2; omega
   ·rcases List.mem_append.1 E with E | E
    ·have := (h.s J E).lt e; have := hi.1.1; omega
    ·rw [jc.1 E] at e
     exact hi.1.2 e
end
theorem avc {w w' : World} {p : Addr} {v : Value} (h : w.cell? p = some v) (A : Below w.heap.size w w') : w'.cell? p = some v := by
 rw [World.cell?_of_block (w := w) (A.block p.block (World.block_lt_of_cell? w p h)), h]
structure SmPt (p : PtT) : Prop where
 q : p.q.size ≤ 200
 body : p.body.size ≤ 20000
 key : p.pr.key.size ≤ 1000
 mid : p.pr.mid.size ≤ 1000
 fit : V.Fit p.pr.app.v
def bodies (l : List PtT) : Nat := (l.map (fun p => p.body.size)).sum
theorem aps {l : List PtT} {k : Nat} (h : k < l.length) : bodies (l.take (k + 1)) = bodies (l.take k) + l[k].body.size := by
 unfold bodies
 rw [jx h, List.map_append, List.sum_append]
 simp
theorem bag {l : List PtT} {k : Nat} (h : k < l.length) (E : ∀ x ∈ l.take k, SmPt x) (F : SmPt l[k]) : ∀ x ∈ l.take (k + 1), SmPt x := by
 intro x A
 rw [jx h, List.mem_append, jc] at A
 rcases A with A | rfl
 ·exact E x A
 ·exact F
theorem ak1 (w : World) (la : Option Addr) (lc : Nat) (l : List PtT) (m : Int) (P : Nat → Prop) (hL : Slc aat 12 w (.slice la l.length lc) l) (az : (l.length : Int) ≤ 9223372036854775807) (aa : ∀ x ∈ l, Rd P w x.pr.app) :
 Calls prog 75 #[.slice la l.length lc, .int .i64 m] w (arc w.heap.size w ((l.length : Int) ≤ m ∧ (∀ x ∈ l, SmPt x) ∧ bodies l ≤ 20000)) := by
 have ag := qq aa
 clear aa
 by_cases e : (l.length : Int) ≤ m
 rotate_left 1
 ·have I : m < (l.length : Int) := by omega
  have M : ¬ (l.length : Int) ≤ m := e; clear e; go_enter func75, ntmps75; go_wp2; go_ret; exact abi (qz _ _)
 have I : (l.length : Int) ≤ m := e
 have M : ¬ m < (l.length : Int) := by omega
 have eh := qq e
 clear e
 go_enter func75, ntmps75
 go_wp2
 clear I M
 go_loopw [5, 6] (fun s5 Z wr => ∃ (k A : Nat), k ≤ l.length ∧ s5 = .int .i64 (A : Int) ∧ Z = .int .i64 (k : Int) ∧ Hid (bodies (l.take k) + A = 20000) ∧ Hid (∀ x ∈ l.take k, SmPt x) ∧ Below w.heap.size w wr) (fun _ Z _ => l.length - (intOf Z).toNat)
 case atStart => exact ⟨0, 20000, by omega, rfl, rfl, qq (by simp [bodies]), qq (by simp), qz _ _⟩
 case round =>
  obtain ⟨k, A, hk, rfl, rfl, Y, af, G⟩ := hrel; by_cases H : k < l.length
  ·have I : (k : Int) < (l.length : Int) := by omega
   have O := hL.pure G; obtain ⟨g, off, rfl⟩ := O.addrB H; have N := (ag.out l[k] (qy H)).pure G; obtain ⟨F, ay, ao, an, al, am, uk, un, us, av, aw, ax, ar, aq, ul, E, hx, e0, e1, e2, e3, e4, e5, e6, e7, e8, e9, a0, aj⟩ := ad5 O H N; have J := qq (aps H); have K := qq (fun h : SmPt l[k] => bag H af.out h); have z := aje l[k].pr P wr N; rw [hx] at z K J; have U := qq z; clear z hx N O; by_cases e : E.size ≤ A
   rotate_left 1
   ·have hd : decide (A < E.size) = true := qp (by omega)
    clear e J K U; go_wp2; go_ret; exact abi G
   have hd : decide (A < E.size) = false := qg (by omega); have X := qq e; clear e; by_cases e : F.size ≤ 200
   rotate_left 1
   ·have hd2 : decide ((F.size : Int) ≤ 200) = false := qg (by omega)
    have hd3 : decide (200 < F.size) = true := qp (by omega); have hd4 : decide ((200 : Int) < (F.size : Int)) = true := qp (by omega); have ak : decide (F.size ≤ 200) = false := qg (by omega); clear e J K U; go_wp2; go_ret; exact abi G
   have hd2 : decide ((F.size : Int) ≤ 200) = true := qp (by omega); have hd3 : decide (200 < F.size) = false := qg (by omega); have hd4 : decide ((200 : Int) < (F.size : Int)) = false := qg (by omega); have ak : decide (F.size ≤ 200) = true := qp (by omega); have ai := qq e; clear e; go_wp2_with fail; refine U.out.mono ?_; rintro e w2 ⟨⟨b, rfl, ad⟩, ae⟩; have ah := qq ad; clear ad; have ac := G.trans (ae.mono G.size); have k3 := avc aj ae; cases b
   ·go_wp2
    go_ret; exact abi ac
   ·have W := qq (ah.out rfl)
    have a1 : ((A : Int) - (E.size : Int)) = ((A - E.size : Nat) : Int) := by have := X.out; omega
    have ab := qq (show A ≤ 20000 by have := Y.out; omega); have au : wrap64 ((A - E.size : Nat) : Int) = ((A - E.size : Nat) : Int) := IntWalk.wrap64_in _ (by have := ab.out; omega); go_wp2; go_roundw
    case rel => exact ⟨k + 1, A - E.size, by omega, by go_num, by go_num, qq (by rw [J.out]; have I := Y.out; have M := X.out; show _ + E.size + _ = _; omega), qq (K.out ⟨ai.out, by have I := X.out; have M := ab.out; show E.size ≤ 20000; omega, W.out.1, W.out.2.1, W.out.2.2⟩), ac⟩
    case measure => simp [intOf]; omega
  ·obtain rfl : k = l.length := by omega
   have hf := qq (show (∀ x ∈ l, SmPt x) ∧ bodies l ≤ 20000 from ⟨by have h := af.out; rw [js] at h; exact h, by have h := Y.out; rw [js] at h; omega⟩); go_wp2; go_ret; exact ama (fun _ => ⟨eh.out, hf.out⟩) G
structure SmEn (t : EnT) : Prop where
 nt : t.zy.length ≤ 110
 name : t.name.size ≤ 200
 np : (t.zu.length : Int) ≤ 110
 zu : ∀ x ∈ t.zu, SmPt x
 bodies : bodies t.zu ≤ 20000
 zy : ∀ r ∈ t.zy, r.q.size ≤ 200
theorem akk (t : EnT) (P : Nat → Prop) (w : World) (z : EnRd P w t) : Calls prog 23 #[t.arg] w (arc w.heap.size w (SmEn t)) := by
 obtain ⟨kind, E, n, xf, xg, xb, K, J, ta, tc, G, A, rfl, Y, aj⟩ := z.open
 rw [EnT.arg_mk]
 have Y : (G.length : Int) ≤ 9223372036854775807 := by unfold maxLen at Y; omega
 have aj : (A.length : Int) ≤ 9223372036854775807 := by unfold maxLen at aj; omega
 have H := (qz w.heap.size w).alloc (qj _) (.cells #[.int .u8 kind, .string E, .int .u64 n, .int .u32 xf, .string xg, .string xb, .slice K G.length J, .slice ta A.length tc] 34)
 have A1 := Blk.new w [.int .u8 kind, .string E, .int .u64 n, .int .u32 xf, .string xg, .string xb, .slice K G.length J, .slice ta A.length tc] 34
 have I := z.pure H
 clear z
 obtain ⟨a0, a1, a2, a3, a4, a5, a6, a7⟩ := A1.a8
 have N := qq (ak1 _ K J G 110 P I.p Y I.r)
 have al := qq I.s
 clear I
 go_enter func23, ntmps23
 by_cases F : A.length ≤ 110
 rotate_left 1
 ·have ah : decide ((A.length : Int) ≤ 110) = false := qg (by omega)
  have ab : decide (A.length ≤ 110) = false := qg (by omega); have ag : decide (110 < A.length) = true := qp (by omega); have af : decide ((110 : Int) < (A.length : Int)) = true := qp (by omega); have ar : 110 < A.length := by omega
  have au : (110 : Int) < (A.length : Int) := by omega
  clear F N; go_wp2; go_ret; exact abi H
 have ah : decide ((A.length : Int) ≤ 110) = true := qp (by omega)
 have ab : decide (A.length ≤ 110) = true := qp (by omega)
 have ag : decide (110 < A.length) = false := qg (by omega)
 have af : decide ((110 : Int) < (A.length : Int)) = false := qg (by omega)
 have ao := qq F
 clear F
 by_cases F : E.size ≤ 200
 rotate_left 1
 ·have ad : decide ((E.size : Int) ≤ 200) = false := qg (by omega)
  have ae : decide (E.size ≤ 200) = false := qg (by omega); have am : decide (200 < E.size) = true := qp (by omega); have ak : decide ((200 : Int) < (E.size : Int)) = true := qp (by omega); clear F N; go_wp2; go_ret; exact abi H
 have ad : decide ((E.size : Int) ≤ 200) = true := qp (by omega)
 have ae : decide (E.size ≤ 200) = true := qp (by omega)
 have am : decide (200 < E.size) = false := qg (by omega)
 have ak : decide ((200 : Int) < (E.size : Int)) = false := qg (by omega)
 have aq := qq F
 clear F
 go_wp2_with fail
 refine N.out.mono ?_
 rintro e w2 ⟨⟨b, rfl, ac⟩, U⟩
 have aa := qq ac
 have O := H.trans (U.mono H.size)
 have A2 := A1.pure U
 have K2 := al.out.pure U
 clear ac N al a0 a1 a2 a3 a4 a5 a6 a7
 cases b
 ·go_wp2
  go_ret; exact abi O
 have X := qq (aa.out rfl)
 clear aa ah ab ag af ad ae am ak
 go_wp2
 go_loopw [3] (fun s3 wr => ∃ (k : Nat), k ≤ A.length ∧ s3 = .int .i64 (k : Int) ∧ Hid (∀ r ∈ A.take k, r.q.size ≤ 200) ∧ wr = w2) (fun s3 _ => A.length - (intOf s3).toNat)
 case atStart => exact ⟨0, by omega, rfl, qq (by simp), rfl⟩
 case round =>
  obtain ⟨k, hk, rfl, ai, rfl⟩ := hrel; have a7 := A2.at 7 rfl; by_cases W : k < A.length
  ·have F : (k : Int) < (A.length : Int) := by omega
   obtain ⟨g, off, rfl⟩ := K2.addrB W; obtain ⟨q, i, hx, c0, c1⟩ := ado K2 W
   have Z := qq (fun h : q.size ≤ 200 => show ∀ r ∈ A.take (k + 1), r.q.size ≤ 200 by
    intro r M; rw [jx W, List.mem_append, jc] at M; rcases M with M | rfl
    ·exact ai.out r M
    ·rw [hx]; exact h)
   clear hx; by_cases h2 : q.size ≤ 200
   rotate_left 1
   ·have hd : 200 < q.size := by omega
    have hd2 : (200 : Int) < (q.size : Int) := by omega
    clear Z; go_wp2; go_ret; exact abi O
   ·have an := qq (Z.out h2)
    have hd : ¬ 200 < q.size := by omega
    have hd2 : ¬ (200 : Int) < (q.size : Int) := by omega
    clear Z; go_wp2; go_roundw
    case rel => exact ⟨k + 1, by omega, by go_num, an, by first | trivial | rfl⟩
    case measure => simp [intOf]; omega
  ·obtain rfl : k = A.length := by omega
   have hf := qq (show SmEn (EnT.mk kind E n (xf, xg, xb) (.slice K G.length J) (.slice ta A.length tc) G A) from ⟨ao.out, aq.out, X.out.1, X.out.2.1, X.out.2.2, by have h := ai.out; rw [js] at h; exact h⟩); go_wp2; go_ret; exact ama (fun _ => hf.out) O
structure SmQu (q : QuT) : Prop where
 l : q.zw.length ≤ 40
 n : q.name.size ≤ 200
 m : ∀ m ∈ q.zw, m.body.size ≤ 5000 ∧ m.pr.key.size ≤ 1000 ∧ m.pr.mid.size ≤ 1000 ∧ V.Fit m.pr.app.v
structure SmBr (b : BrT) : Prop where
 p : b.zu.length ≤ 20
 t : b.zy.length ≤ 20
 e : SmEn b.en
structure SmSt (t : StT) : Prop where
 q : t.qs.length ≤ 12
 b : t.zk.length ≤ 12
 h : t.hs.length ≤ 40
 qs : ∀ q ∈ t.qs, SmQu q
 bs : ∀ b ∈ t.zk, SmBr b
theorem SmSt.sm {t : StT} (h : SmSt t) : StSm t := ⟨by have := h.q; omega, fun q A => by have := (h.qs q A).l; omega, by have := h.b; omega, by have := h.h; omega⟩
theorem adf {n c : Nat} (h : decide (c < n) = false) : n ≤ c := by have := jq h; omega
theorem ais {α : Type} {l : List α} {Q : α → Prop} {k : Nat} (E : k < l.length) (h : ∀ x ∈ l.take k, Q x) (F : Q l[k]) : ∀ x ∈ l.take (k + 1), Q x := by
 intro x A
 rw [jx E, List.mem_append, jc] at A
 rcases A with A | rfl
 ·exact h x A
 ·exact F
theorem avd (w : World) (E : Int) (A I : ByteArray) (M : Option Addr) (J H : Nat) (G : Option Addr) (F N : Nat) : Calls prog 24 #[.agg #[.int .u32 E, .string A, .string I, .slice M J H, .slice G F N]] w fun e w' => e = .returned (.agg #[.int .u8 4, .string ⟨#[]⟩, .int .u64 0, .int .u32 E, .string A, .string I, .slice M J H, .slice G F N]) ∧ Below w.heap.size w w' := by
 have z := aty; have zx := ahk
 have O := qq (((qz w.heap.size w).alloc (qj _) (.cells #[.int .u32 E, .string A, .string I, .slice M J H, .slice G F N] 62)).alloc (by simp) (.cells #[.int .u8 4, .string ⟨#[]⟩, .int .u64 0, .int .u32 E, .string A, .string I, .slice M J H, .slice G F N] 34))
 have K := qq (Blk.newE (w.alloc (.cells #[.int .u32 E, .string A, .string I, .slice M J H, .slice G F N] 62)) [.int .u8 4, .string ⟨#[]⟩, .int .u64 0, .int .u32 E, .string A, .string I, .slice M J H, .slice G F N] 34 (w.heap.size + 1) (by simp))
 have aa := (Blk.new w [.int .u32 E, .string A, .string I, .slice M J H, .slice G F N] 62).alloc (.cells #[.int .u8 4, .string ⟨#[]⟩, .int .u64 0, .int .u32 E, .string A, .string I, .slice M J H, .slice G F N] 34)
 go_enter func24, ntmps24
 go_wp2
 have K := K.out; have O := O.out
 obtain ⟨k0, k1, X, U, W, Z, Y, h⟩ := K.a8
 refine bodyPost_ret (by simp [results, Tryz.results24, go_sem, k0, k1, X, U, W, Z, Y, h]; rfl) rfl ?_
 exact ⟨rfl, O⟩
theorem ahv {P : Prop} (h : P := by
 go_wp2
 go_ret
 exact abi (hB1.trans (hBu.mono hB1.size))) : P := h
theorem apt (t : StT) (P : Nat → Prop) (w : World) (hR : StRd P w t) : Calls prog 7 #[t.arg] w (arc w.heap.size w (SmSt t)) := by
 obtain ⟨nx, qa, qc, ba, bc, ha, hc, qs, zk, hs, rfl, hq, hb, hh⟩ := hR.open
 rw [StT.arg_mk]
 have hB1 := (qz w.heap.size w).alloc (qj _) (.cells #[.int .u64 nx, .slice qa qs.length qc, .slice ba zk.length bc, .slice ha hs.length hc] 27)
 have A1 := Blk.new w [.int .u64 nx, .slice qa qs.length qc, .slice ba zk.length bc, .slice ha hs.length hc] 27
 have ac := qq (hR.pure hB1)
 clear hR
 have a1 := A1.at 1 rfl; have a2 := A1.at 2 rfl; have a3 := A1.at 3 rfl
 obtain ⟨H, F⟩ := qx (decide (12 < qs.length))
 have z : decide ((12 : Int) < ((qs.length : Nat) : Int)) = H := by rw [← F]; exact decide_eq_decide.2 (by omega)
 obtain ⟨K, I⟩ := qx (decide (12 < zk.length))
 have ae : decide ((12 : Int) < ((zk.length : Nat) : Int)) = K := by rw [← I]; exact decide_eq_decide.2 (by omega)
 obtain ⟨g3, ah⟩ := qx (decide (40 < hs.length))
 have az : decide ((40 : Int) < ((hs.length : Nat) : Int)) = g3 := by rw [← ah]; exact decide_eq_decide.2 (by omega)
 go_enter func7, ntmps7
 go_upto_region 1 with fail
 obtain ⟨u, hu⟩ := zj (w.alloc (.cells #[.int .u64 nx, .slice qa qs.length qc, .slice ba zk.length bc, .slice ha hs.length hc] 27))
 rw [← hu] at hB1 A1 a1 a2 a3 ac ⊢
 clear hu
 cases H
 rotate_left 1
 ·go_wp2
  go_ret; exact abi hB1
 cases K
 rotate_left 1
 ·go_wp2
  go_ret; exact abi hB1
 cases g3
 rotate_left 1
 ·go_wp2
  go_ret; exact abi hB1
 have a0 := adf F; have av := adf I; have aw := adf ah
 have bt : (qs.length : Int) ≤ 12 := by omega
 have bo : (zk.length : Int) ≤ 12 := by omega
 go_wp2
 clear a1 a2 a3 F z I ae ah az hq hb hh
 go_loopw [3, 4] (fun s3 s4 wr => ∃ k : Nat, k ≤ qs.length ∧ s3 = .int .i64 k ∧ Hid (∀ q ∈ qs.take k, SmQu q) ∧ Below u.heap.size u wr) (fun s3 s4 _ => qs.length - (intOf s3).toNat)
 case atStart => exact ⟨0, Nat.zero_le _, rfl, qq (fun x h => by cases h), qz _ _⟩
 case round =>
  obtain ⟨k, hk, rfl, E, A⟩ := hrel; have A2 := A1.pure A; have b1 := A2.at 1 rfl; have aa := ac.out.pure A; by_cases G : k < qs.length
  ·have an : (k : Int) < (qs.length : Int) := by omega
   have J : Slc aar 3 wr (.slice qa qs.length qc) qs := aa.q; obtain ⟨g, off, rfl⟩ := J.addrB G; obtain ⟨ak, br, ma, mc, zw, O, -, c0, c1, c2⟩ := aep J G (aa.m _ (qy G)); have M := aa.m _ (qy G); rw [O] at M; have bb := qq M; have ab := qq O; clear M O J aa; obtain ⟨H, F⟩ := qx (decide (40 < zw.length)); have z : decide ((40 : Int) < ((zw.length : Nat) : Int)) = H := by rw [← F]; exact decide_eq_decide.2 (by omega)
   obtain ⟨K, I⟩ := qx (decide (200 < ak.size)); have ae : decide ((200 : Int) < ((ak.size : Nat) : Int)) = K := by rw [← I]; exact decide_eq_decide.2 (by omega)
   cases H
   rotate_left 1
   ·go_wp2
    go_ret; exact abi (hB1.trans (A.mono hB1.size))
   cases K
   rotate_left 1
   ·go_wp2
    go_ret; exact abi (hB1.trans (A.mono hB1.size))
   have bd := adf F; have ay := qq (adf I); have bm : (zw.length : Int) ≤ 40 := by omega
   obtain ⟨wo, rfl⟩ := zj wr; have Z := A; have af := E; clear A E; go_wp2; clear b1 c0 c1 c2 F z I ae; go_loopw [4] (fun s4 wr => ∃ j : Nat, j ≤ zw.length ∧ s4 = .int .i64 j ∧ Hid (∀ m ∈ zw.take j, m.body.size ≤ 5000 ∧ m.pr.key.size ≤ 1000 ∧ m.pr.mid.size ≤ 1000 ∧ V.Fit m.pr.app.v) ∧ Below wo.heap.size wo wr) (fun s4 _ => zw.length - (intOf s4).toNat)
   case atStart => exact ⟨0, Nat.zero_le _, rfl, qq (fun x h => by cases h), qz _ _⟩
   case round =>
    obtain ⟨j, hj, rfl, E, A⟩ := hrel; have A3 := A2.pure A; have b1 := A3.at 1 rfl; have hBu := Z.trans (A.mono Z.size); have J := (ac.out.pure hBu).q; obtain ⟨c0, c1, c2⟩ := aby J G ab.out; have M := bb.out.pure A; by_cases Y : j < zw.length
    ·have bg : (j : Int) < (zw.length : Int) := by omega
     obtain ⟨K, bh, rfl⟩ := M.s.addrB Y; obtain ⟨id, key, bn, red, mid, uk, un, us, bp, bq, bj, bl, bi, ul, al, hy, e0, e1, e2, e3, e4, e5, e6, e7, e8, e9, bk⟩ := aga M.s Y (M.r _ (qy Y)); have aj := aje zw[j].pr P wr (M.r _ (qy Y)); rw [hy, PT.arg_mk] at aj; have ao := qq aj; have au := qq hy; clear aj hy M J; obtain ⟨H, F⟩ := qx (decide (5000 < al.size)); have z : decide ((5000 : Int) < ((al.size : Nat) : Int)) = H := by rw [← F]; exact decide_eq_decide.2 (by omega)
     cases H
     rotate_left 1
     ·exact ahv
     have bf := adf F; go_wp2_with fail; refine ao.out.mono ?_; rintro e w3 ⟨⟨b, rfl, N⟩, U⟩; have N := qq N; have ai := hBu.trans (U.mono hBu.size); have ag := A.trans (U.mono A.size); cases b
     ·go_wp2
      go_ret; exact abi (hB1.trans (ai.mono hB1.size))
     ·go_wp2
      go_roundw
      case rel => exact ⟨j + 1, by omega, by go_num, qq (ais Y E.out (by rw [au.out]; exact ⟨bf, N.out (by trivial)⟩)), ag⟩
      case measure => simp [intOf]; omega
    ·obtain rfl : j = zw.length := by omega
     rw [js] at E; go_wp2; go_roundw
     case rel => exact ⟨k + 1, by omega, by go_num, qq (ais G af.out (by rw [ab.out]; exact ⟨bd, ay.out, E.out⟩)), hBu⟩
     case measure => simp [intOf]; omega
  ·obtain rfl : k = qs.length := by omega
   rw [js] at E; obtain ⟨wo, rfl⟩ := zj wr; have Z := A; have af := E; clear A E aa; go_wp2; clear b1; go_loopw [5] (fun s5 wr => ∃ k : Nat, k ≤ zk.length ∧ s5 = .int .i64 k ∧ Hid (∀ b ∈ zk.take k, SmBr b) ∧ Below wo.heap.size wo wr) (fun s5 _ => zk.length - (intOf s5).toNat)
   case atStart => exact ⟨0, Nat.zero_le _, rfl, qq (fun x h => by cases h), qz _ _⟩
   case round =>
    obtain ⟨k, hk, rfl, E, A⟩ := hrel; have A3 := A2.pure A; have b2 := A3.at 2 rfl; have hBu := Z.trans (A.mono Z.size); have ad := ac.out.pure hBu; by_cases G : k < zk.length
    ·have an : (k : Int) < (zk.length : Int) := by omega
     have J : Slc aa7 5 wr (.slice ba zk.length bc) zk := ad.b; obtain ⟨g, off, rfl⟩ := J.addrB G; obtain ⟨yf, yg, yb, pa, pc, ta, tc, W, X, O, -, -, c0, c1, c2, c3, c4⟩ := adq J G (ad.e _ (qy G)); have hE := ad.e _ (qy G); rw [O] at hE; have aq := qq (fun (v : World) (h : Below wr.heap.size wr v) => show Calls prog 23 #[.agg #[.int .u8 4, .string ⟨#[]⟩, .int .u64 0, .int .u32 yf, .string yg, .string yb, .slice pa W.length pc, .slice ta X.length tc]] v _ from akk (BrT.mk (yf, yg, yb) (.slice pa W.length pc) (.slice ta X.length tc) W X).en P v (hE.pure h)); have ab := qq O; clear hE O J ad; obtain ⟨H, F⟩ := qx (decide (20 < W.length)); have z : decide ((20 : Int) < ((W.length : Nat) : Int)) = H := by rw [← F]; exact decide_eq_decide.2 (by omega)
     obtain ⟨K, I⟩ := qx (decide (20 < X.length)); have ae : decide ((20 : Int) < ((X.length : Nat) : Int)) = K := by rw [← I]; exact decide_eq_decide.2 (by omega)
     cases H
     rotate_left 1
     ·exact ahv
     cases K
     rotate_left 1
     ·exact ahv
     have hp1 := adf F; have ar := adf I; go_wp2_with (first | (go_at_call 24; (with_reducible refine (avd _ yf yg yb pa W.length pc ta X.length tc).mono ?_); rintro e w3 ⟨rfl, U⟩)); refine (aq.out _ U).mono ?_; rintro e w4 ⟨⟨b, rfl, N⟩, ai⟩; have N := qq N; have am := U.trans (ai.mono U.size); have ax := hBu.trans (am.mono hBu.size); have ag := A.trans (am.mono A.size); cases b
     ·go_wp2
      go_ret; exact abi (hB1.trans (ax.mono hB1.size))
     ·go_wp2
      go_roundw
      case rel => exact ⟨k + 1, by omega, by go_num, qq (ais G E.out (by rw [ab.out]; exact ⟨hp1, ar, N.out (by trivial)⟩)), ag⟩
      case measure => simp [intOf]; omega
    ·obtain rfl : k = zk.length := by omega
     rw [js] at E; go_wp2; go_ret; exact ⟨⟨true, rfl, fun _ => ⟨a0, av, aw, af.out, E.out⟩⟩, hB1.trans (hBu.mono hB1.size)⟩
structure CSt (w0 w : World) (lv : Value) (L : List PtT) : Prop where
 o : Own w0.heap.size 64 12 aat w lv L
 rd : ∀ x ∈ L, Rd (fun i => w0.heap.size ≤ i ∧ lv.ownBlock ≠ some i) w x.pr.app
 b : Below w0.heap.size w0 w
theorem CSt.upd {w0 w w' : World} {lv : Value} {L : List PtT} {S : Nat → Prop} (h : CSt w0 w lv L) (E : Upd S w w') (A : ∀ k, S k → w.heap.size ≤ k) : CSt w0 w' lv L :=
 ⟨h.o.upd E (fun i hi e => by have F := h.o.lt hi; have G := A _ e; omega), fun x H => ((h.rd x H).lt.upd E (fun i hi e => by have F := hi.2; have G := A _ e; omega)).weaken (fun i _ hi => hi.1), ag0 h.b E (fun k e => jk h.b.size (A k e)) h.b.size⟩
theorem CSt.pure {w0 w w' : World} {lv : Value} {L : List PtT} (h : CSt w0 w lv L) (A : Below w.heap.size w w') : CSt w0 w' lv L := h.upd (Upd.of_below (S := fun _ => False) A) (fun _ e => e.elim)
theorem CSt.app {w0 w w' : World} {lv : Value} {L : List PtT} {g F : Nat} {t : PtT} (h : CSt w0 w lv L) (K : Own w0.heap.size 64 12 aat w' (.slice (some ⟨g, 0, none⟩) (L.length + 1) F) (L ++ [t])) (J : w.grownBy w' lv.ownBlock) (G : lv.ownBlock = some g ∨ g = w.heap.size)
 (M : Rd (fun i => w0.heap.size ≤ i ∧ lv.ownBlock ≠ some i) w t.pr.app) : CSt w0 w' (.slice (some ⟨g, 0, none⟩) (L.length + 1) F) (L ++ [t]) := by
 have I : Upd (fun i => lv.ownBlock = some i) w w' := Upd.grown J (fun i e => e)
 have H : ∀ x : VT, Rd (fun i => w0.heap.size ≤ i ∧ lv.ownBlock ≠ some i) w x → Rd (fun i => w0.heap.size ≤ i ∧ (Value.slice (some ⟨g, 0, none⟩) (L.length + 1) F).ownBlock ≠ some i) w' x := fun x A =>
  (A.weaken (Q := fun i => (w0.heap.size ≤ i ∧ (Value.slice (some ⟨g, 0, none⟩) (L.length + 1) F).ownBlock ≠ some i) ∧ lv.ownBlock ≠ some i) (fun i hi E => ⟨⟨E.1, fun e => by
   have e : some g = some i := e; rcases G with G | G
   ·exact E.2 (G.trans e)
   ·injection e with e; omega⟩, E.2⟩)).upd I (fun i hi e => hi.2 e) |>.weaken (fun i _ E => E.1)
 refine ⟨K, fun x A => ?_, ag0 h.b I (fun k e => h.o.ge e) h.b.size⟩
 rcases List.mem_append.1 A with A | A
 ·exact H _ (h.rd x A)
 ·rw [jc.1 A]; exact H _ M
theorem map_take {α β : Type} {f : α → β} {l : List α} {k : Nat} (h : k < l.length) {L : List α} (A : L.map f = (l.take k).map f) {y : α} (hy : f y = f l[k]) : (L ++ [y]).map f = (l.take (k + 1)).map f := by
 rw [jx h, List.map_append, List.map_append, A, List.map_cons, List.map_cons, hy, List.map_nil]
theorem bah (w : World) (q A : ByteArray) (i E : Int) : (binOp .eql 68 (.agg #[.string q, .int .u64 i]) (.agg #[.string A, .int .u64 E])).run prog w = .ok (.bool (acz ⟨q, i⟩ ⟨A, E⟩)) w := by
 have F : prog.fieldsOf 68 = (match prog.underlying 68 with | some (.struct fs) => fs | _ => #[]) := rfl
 rw [underlying68] at F
 simp only at F
 have e : acz ⟨q, i⟩ ⟨A, E⟩ = (q == A && i == E) := by
  unfold acz; rw [beq_toListBytes]; congr 1
 rw [e, run_eql_struct, show (10000 : Nat) = 9999 + 1 from rfl, run_equalIn_agg w 9999 _ _ _ (by rw [F]; exact underlying68) (by kernel_rfl), F]
 cases h1 : (q == A) <;> cases h2 : (i == E) <;> simp [go_sem, ae9, h1, h2]
theorem avf {a b : ByteArray} : (a.toList == b.toList) = true ↔ a = b := by rw [beq_iff_eq]; exact ⟨toList_inj, fun h => by rw [h]⟩
structure QuRd (P : Nat → Prop) (w : World) (q : QuT) : Prop where
 m : MsRd P w q.mv q.zw
 l : q.zw.length ≤ 1000000
theorem QuRd.pure {P : Nat → Prop} {w w' : World} {q : QuT} (h : QuRd P w q) (A : Below w.heap.size w w') : QuRd P w' q := ⟨h.m.pure A, h.l⟩
def bfr {α : Type} (l : List α) (p : α → Bool) : Int := match l.findIdx? p with | some i => (i : Int) | none => -1
theorem bfo {α : Type} {l : List α} {p : α → Bool} {k : Nat} (F : k < l.length) (A : ∀ j, (h : j < l.length) → j < k → p l[j] = false) (G : p l[k] = true) : bfr l p = k := by
 have h : l.findIdx? p = some k := List.findIdx?_eq_some_iff_getElem.2 ⟨F, G, fun j E => by rw [A j (by omega) E]; simp⟩
 unfold bfr; rw [h]
theorem be4 {α : Type} {l : List α} {p : α → Bool} (F : ∀ j, (h : j < l.length) → p l[j] = false) : bfr l p = -1 := by
 have h : l.findIdx? p = none := List.findIdx?_eq_none_iff.2 (fun x A => by obtain ⟨j, E, rfl⟩ := List.getElem_of_mem A; exact F j E)
 unfold bfr; rw [h]
theorem be6 {α : Type} {l : List α} {p : α → Bool} : 0 ≤ bfr l p → ∃ k, bfr l p = (k : Nat) ∧ ∃ h : k < l.length, p l[k] = true := by
 intro A
 unfold bfr at *
 cases h : l.findIdx? p with
 | none => rw [h] at A; simp at A
 | some k =>
  obtain ⟨F, E, -⟩ := List.findIdx?_eq_some_iff_getElem.1 h; exact ⟨k, rfl, F, E⟩
theorem be0 {α : Type} {l : List α} {p : α → Bool} : 0 ≤ bfr l p ↔ ∃ x ∈ l, p x = true := by
 constructor
 ·intro h
  obtain ⟨k, -, E, G⟩ := be6 h; exact ⟨l[k], qy E, G⟩
 ·rintro ⟨x, F, A⟩
  unfold bfr
  cases h : l.findIdx? p with
  | none => rw [List.findIdx?_eq_none_iff.1 h x F] at A; cases A
  | some k => show (0 : Int) ≤ (k : Int); omega
def quI (s : St) (n : ByteArray) : Int := bfr s.qs (fun q => decide (q.name = n))
def brI (s : St) (x : Xn) : Int := bfr s.zk (fun b => decide (b.x = x))
theorem bej {P : Prop} (h : P := by
 go_wp2
 go_ret
 exact ⟨by rw [hfin.out]; rfl, hB1.trans (hB.mono hB1.size)⟩) : P := h
theorem bgd (w : World) (t : StT) (n : ByteArray) (P : Nat → Prop) (W : StRd P w t) (F : StSm t) : Calls prog 56 #[t.arg, .string n] w fun e w' => e = .returned (.int .i64 (quI t.s n)) ∧ Below w.heap.size w w' := by
 obtain ⟨nx, H, qc, N, K, M, E, qs, zk, hs, rfl, -, -, -⟩ := W.open
 rw [StT.arg_mk]
 have hB1 := (qz w.heap.size w).alloc (qj _) (.cells #[.int .u64 nx, .slice H qs.length qc, .slice N zk.length K, .slice M hs.length E] 27)
 have A1 := Blk.new w [.int .u64 nx, .slice H qs.length qc, .slice N zk.length K, .slice M hs.length E] 27
 have Z := qq (W.pure hB1)
 have hL : qs.length ≤ 1000000 := F.q
 have ad : (qs.length : Int) ≤ 1000000 := by omega
 have Y : quI (StT.mk nx (.slice H qs.length qc) (.slice N zk.length K) (.slice M hs.length E) qs zk hs).s n = bfr (qs.map QuT.q) (fun q => decide (q.name = n)) := rfl
 rw [Y]
 clear Y W F
 go_enter func56, ntmps56
 go_upto_region 1 with fail
 obtain ⟨u, hu⟩ := zj (w.alloc (.cells #[.int .u64 nx, .slice H qs.length qc, .slice N zk.length K, .slice M hs.length E] 27))
 rw [← hu] at hB1 A1 Z ⊢
 clear hu
 go_wp2
 go_loopw [5] (fun X wr => ∃ k : Nat, k ≤ qs.length ∧ X = .int .i64 k ∧ Hid (∀ j, (h : j < (qs.map QuT.q).length) → j < k → decide ((qs.map QuT.q)[j].name = n) = false) ∧ Below u.heap.size u wr) (fun X _ => qs.length - (intOf X).toNat)
 case atStart => exact ⟨0, Nat.zero_le _, rfl, qq (fun j h h' => jp h' (by omega)), qz _ _⟩
 case round =>
  obtain ⟨k, hk, rfl, O, hB⟩ := hrel; have A2 := A1.pure hB; have b1 := A2.at 1 rfl; by_cases J : k < qs.length
  ·have ac : (k : Int) < (qs.length : Int) := by omega
   have U := Z.out.pure hB; have F : Slc aar 3 wr (.slice H qs.length qc) qs := U.q; obtain ⟨g, off, rfl⟩ := F.addrB J; obtain ⟨G, ae, ma, mc, zw, z, -, c0, c1, c2⟩ := aep F J (U.m _ (qy J)); have ab : k < (qs.map QuT.q).length := by rw [jf]; exact J
   have I : (qs.map QuT.q)[k].name = G := by rw [zq, z]; rfl
   clear U F z c1 c2; by_cases A : G = n
   ·have hfin := qq (bfo (p := fun q => decide (q.name = n)) ab O.out (by rw [I]; exact qp A))
    have he : (G.toList == n.toList) = true := avf.2 A; clear A I; exact bej
   ·have aa := qq (show ∀ j, (h : j < (qs.map QuT.q).length) → j < k + 1 → decide ((qs.map QuT.q)[j].name = n) = false from fun j h hj => by
     rcases Nat.lt_or_ge j k with q | q
     ·exact O.out j h q
     ·obtain rfl : j = k := by omega
      rw [I]; exact qg A)
    have he : (G.toList == n.toList) = false := by
     cases E : (G.toList == n.toList)
     ·rfl
     ·exact jp (avf.1 E) A
    clear A I; go_wp2; go_roundw
    case rel => exact ⟨k + 1, by omega, by go_num, aa, hB⟩
    case measure => simp [intOf]; omega
  ·obtain rfl : k = qs.length := by omega
   have hfin := qq (be4 (p := fun q => decide (q.name = n)) (fun j h => O.out j h (by rw [jf] at h; exact h))); exact bej
theorem bge (G F : Int) (I H E A : ByteArray) : (G == F && (I == E && H == A)) = decide ((G, I, H) = (F, E, A)) := by
 rw [Bool.eq_iff_iff, qm]
 rw [jj, jj, beq_toListBytes, beq_toListBytes, beq_iff_eq, beq_iff_eq, beq_iff_eq, jm, jm]
 exact ⟨fun h => ⟨h.1, toList_inj h.2.1, toList_inj h.2.2⟩, fun h => ⟨h.1, by rw [h.2.1], by rw [h.2.2]⟩⟩
theorem bfk {P : Prop} (h : P := by
 go_wp2
 go_roundw
 case rel => exact ⟨k + 1, by omega, by go_num, hall2, hBd⟩
 case measure => simp [intOf]; omega) : P := h
theorem bgr (w : World) (t : StT) (F : Int) (A E : ByteArray) (P : Nat → Prop) (Z : StRd P w t) (H : StSm t) : Calls prog 60 #[t.arg, .agg #[.int .u32 F, .string A, .string E]] w fun e w' => e = .returned (.int .i64 (brI t.s (F, A, E))) ∧ Below w.heap.size w w' := by
 obtain ⟨nx, O, qc, J, I, U, W, qs, zk, hs, rfl, -, -, -⟩ := Z.open
 rw [StT.arg_mk]
 have hB1 := ((qz w.heap.size w).alloc (qj _) (.cells #[.int .u64 nx, .slice O qs.length qc, .slice J zk.length I, .slice U hs.length W] 27)).alloc (by simp) (.cells #[.int .u32 F, .string A, .string E] 30)
 have A1 := (Blk.new w [.int .u64 nx, .slice O qs.length qc, .slice J zk.length I, .slice U hs.length W] 27).alloc (.cells #[.int .u32 F, .string A, .string E] 30)
 have X1 := Blk.newE (w.alloc (.cells #[.int .u64 nx, .slice O qs.length qc, .slice J zk.length I, .slice U hs.length W] 27)) [.int .u32 F, .string A, .string E] 30 (w.heap.size + 1) (by simp)
 have ad := qq (Z.pure hB1)
 have hL : zk.length ≤ 1000000 := H.b
 have al : (zk.length : Int) ≤ 1000000 := by omega
 have ab : brI (StT.mk nx (.slice O qs.length qc) (.slice J zk.length I) (.slice U hs.length W) qs zk hs).s (F, A, E) = bfr (zk.map BrT.b) (fun b => decide (b.x = (F, A, E))) := rfl
 rw [ab]
 clear ab Z H
 go_enter func60, ntmps60
 go_upto_region 1 with fail
 obtain ⟨u, hu⟩ := zj ((w.alloc (.cells #[.int .u64 nx, .slice O qs.length qc, .slice J zk.length I, .slice U hs.length W] 27)).alloc (.cells #[.int .u32 F, .string A, .string E] 30))
 rw [← hu] at hB1 A1 X1 ad ⊢
 clear hu
 go_wp2
 go_loopw [5] (fun s5 wr => ∃ k : Nat, k ≤ zk.length ∧ s5 = .int .i64 k ∧ Hid (∀ j, (h : j < (zk.map BrT.b).length) → j < k → decide ((zk.map BrT.b)[j].x = (F, A, E)) = false) ∧ Below u.heap.size u wr) (fun s5 _ => zk.length - (intOf s5).toNat)
 case atStart => exact ⟨0, Nat.zero_le _, rfl, qq (fun j h h' => jp h' (by omega)), qz _ _⟩
 case round =>
  obtain ⟨k, hk, rfl, X, hB⟩ := hrel; have A2 := A1.pure hB; have X2 := X1.pure hB; have b2 := A2.at 2 rfl; by_cases M : k < zk.length
  ·have ah : (k : Int) < (zk.length : Int) := by omega
   have aj : (0 : Int) ≤ (k : Int) := by omega
   have Y := ad.out.pure hB; have H : Slc aa7 5 wr (.slice J zk.length I) zk := Y.b; obtain ⟨g, off, rfl⟩ := H.addrB M; obtain ⟨xf, xg, xb, am, an, ai, ak, zu, zy, z, -, -, -⟩ := adq H M (Y.e _ (qy M)); have ag : k < (zk.map BrT.b).length := by rw [jf]; exact M
   have aa : (zk.map BrT.b)[k].x = (xf, xg, xb) := by rw [zq, z]; rfl
   have af := qq (fun (v : World) (h : Below wr.heap.size wr v) => ach (H.pure h) M z); have ac := qq aa; obtain ⟨b, K⟩ := qx (decide ((xf, xg, xb) = (F, A, E))); have hq := fun (u : World) => (azr u xf F xg xb A E).trans (show _ = Result.ok (.bool b) u by rw [bge, K])
   have ae := qq K; clear Y H z aa K; go_upto_region 4 with fail; have K := aan (qz wr.heap.size wr); refine aal (fun v => Below wr.heap.size wr v) K (fun G => ?_); refine tkH 0 G ?_; refine tkF 1 G ?_ (fun v N => (A2.pure N).at 2 rfl); refine tkH 2 G ?_; refine tkH 3 G ?_; refine tkH 4 G ?_; refine tkF 5 G ?_ (fun v N => af.out _ N); refine tkF 6 G ?_ (fun v N => (X2.pure N).a3); refine tkH 7 G ?_; refine ah9 ?_; clear hq; have hBd := hB.trans (K.mono hB.size); cases b
   ·have hall2 := qq (show ∀ j, (h : j < (zk.map BrT.b).length) → j < k + 1 → decide ((zk.map BrT.b)[j].x = (F, A, E)) = false from fun j h hj => by
     rcases Nat.lt_or_ge j k with q | q
     ·exact X.out j h q
     ·obtain rfl : j = k := by omega
      rw [ac.out]; exact ae.out)
    exact bfk
   ·have hfin := qq (bfo (p := fun b => decide (b.x = (F, A, E))) ag X.out (by rw [ac.out]; exact ae.out))
    go_wp2; go_ret; exact ⟨by rw [hfin.out]; rfl, hB1.trans (hBd.mono hB1.size)⟩
  ·obtain rfl : k = zk.length := by omega
   have hfin := qq (be4 (p := fun b => decide (b.x = (F, A, E))) (fun j h => X.out j h (by rw [jf] at h; exact h))); exact bej
def Qu.nil : Qu := ⟨⟨#[]⟩, 0, []⟩
def msI (s : St) (r : Rf) : Int := if quI s r.q < 0 then -1 else bfr ((s.qs.getD (quI s r.q).toNat Qu.nil).zw) (fun m => decide (m.id = r.id))
theorem bgs (w : World) (t : StT) (F : ByteArray) (A : Int) (P : Nat → Prop) (hR : StRd P w t) (hS : StSm t) : Calls prog 57 #[t.arg, .agg #[.string F, .int .u64 A]] w fun e w' => e = .returned (.int .i64 (msI t.s ⟨F, A⟩)) ∧ Below w.heap.size w w' := by
 obtain ⟨nx, G, qc, O, I, J, N, qs, zk, hs, rfl, -, -, -⟩ := hR.open
 rw [StT.arg_mk]
 have aa := ((qz w.heap.size w).alloc (qj _) (.cells #[.int .u64 nx, .slice G qs.length qc, .slice O zk.length I, .slice J hs.length N] 27)).alloc (by simp) (.cells #[.string F, .int .u64 A] 68)
 have A1 := (Blk.new w [.int .u64 nx, .slice G qs.length qc, .slice O zk.length I, .slice J hs.length N] 27).alloc (.cells #[.string F, .int .u64 A] 68)
 have X1 := Blk.newE (w.alloc (.cells #[.int .u64 nx, .slice G qs.length qc, .slice O zk.length I, .slice J hs.length N] 27)) [.string F, .int .u64 A] 68 (w.heap.size + 1) (by simp)
 have ae := qq (hR.pure aa)
 have au := qq hS
 obtain ⟨i, hi⟩ := qx (quI (StT.mk nx (.slice G qs.length qc) (.slice O zk.length I) (.slice J hs.length N) qs zk hs).s F)
 have an : msI (StT.mk nx (.slice G qs.length qc) (.slice O zk.length I) (.slice J hs.length N) qs zk hs).s ⟨F, A⟩ = if i < 0 then -1 else bfr (((qs.map QuT.q).getD i.toNat Qu.nil).zw) (fun m => decide (m.id = A)) := by unfold msI; rw [hi]; rfl
 rw [an]
 obtain ⟨R, aj⟩ := qx (if i < 0 then -1 else bfr (((qs.map QuT.q).getD i.toNat Qu.nil).zw) (fun m => decide (m.id = A)))
 rw [aj]
 have ag := qq hi; have am := qq aj
 clear an hR hS hi aj
 go_enter func57, ntmps57
 go_upto_region 1 with fail
 obtain ⟨u, hu⟩ := zj ((w.alloc (.cells #[.int .u64 nx, .slice G qs.length qc, .slice O zk.length I, .slice J hs.length N] 27)).alloc (.cells #[.string F, .int .u64 A] 68))
 rw [← hu] at aa A1 X1 ae ⊢
 clear hu
 have Y : Calls prog 56 #[.agg #[.int .u64 nx, .slice G qs.length qc, .slice O zk.length I, .slice J hs.length N], .string F] u _ := bgd u (StT.mk nx (.slice G qs.length qc) (.slice O zk.length I) (.slice J hs.length N) qs zk hs) F P ae.out au.out
 rw [ag.out] at Y
 have bd := qq Y
 clear Y
 obtain ⟨s0, s1, s2, s3⟩ := A1.a4; obtain ⟨x0, x1⟩ := X1.a2
 go_upto_region 2 with (go_at_call 56; (with_reducible refine bd.out.mono ?_); rintro e W ⟨rfl, z⟩)
 clear s0 s1 s2 s3 x0 x1
 have X := aa.trans (z.mono aa.size)
 have A2 := A1.pure z; have X2 := X1.pure z
 by_cases ao : i < 0
 ·go_wp2
  go_ret; exact ⟨by rw [← am.out, qw ao]; rfl, X⟩
 have bf : ∃ k : Nat, i = (k : Int) ∧ k < qs.length := by
  obtain ⟨k, h1, h2, -⟩ := be6 (l := qs.map QuT.q) (p := fun q => decide (q.name = F)) (by show 0 ≤ quI (StT.mk nx (.slice G qs.length qc) (.slice O zk.length I) (.slice J hs.length N) qs zk hs).s F; rw [ag.out]; omega); exact ⟨k, ag.out.symm.trans h1, by rw [jf] at h2; exact h2⟩
 obtain ⟨k, rfl, U⟩ := bf
 have bh : (k : Int) < (qs.length : Int) := by omega
 have bk : (0 : Int) ≤ (k : Int) := by omega
 have ab := ae.out.pure z
 have Z : Slc aar 3 W (.slice G qs.length qc) qs := ab.q
 obtain ⟨g, off, rfl⟩ := Z.addrB U
 obtain ⟨bj, bl, ma, mc, zw, hx, -, -, -, -⟩ := aep Z U (ab.m _ (qy U))
 have M := ab.m _ (qy U)
 have ai := au.out.m _ (qy U)
 rw [hx] at M ai
 have ai : zw.length ≤ 1000000 := ai
 have M : MsRd P W (.slice ma zw.length mc) zw := M
 have aq : ((qs.map QuT.q).getD (k : Int).toNat Qu.nil).zw = zw.map MsT.m := by
  rw [Int.toNat_natCast, List.getD_eq_getElem?_getD, List.getElem?_map, List.getElem?_eq_getElem U, hx]; rfl
 have aw := qq (show R = bfr (zw.map MsT.m) (fun m => decide (m.id = A)) by rw [← am.out, qk ao, aq])
 have ak := qq (fun (v : World) (h : Below W.heap.size W v) => aby (Z.pure h) U hx)
 have az := qq M
 have bi : (zw.length : Int) ≤ 1000000 := by omega
 clear ab Z hx M aq
 go_wp2
 go_loopw [6] (fun s6 wr => ∃ j : Nat, j ≤ zw.length ∧ s6 = .int .i64 j ∧ Hid (∀ x, (h : x < (zw.map MsT.m).length) → x < j → decide ((zw.map MsT.m)[x].id = A) = false) ∧ Below W.heap.size W wr) (fun s6 _ => zw.length - (intOf s6).toNat)
 case atStart => exact ⟨0, Nat.zero_le _, rfl, qq (fun j h h' => jp h' (by omega)), qz _ _⟩
 case round =>
  obtain ⟨j, hj, rfl, ad, K⟩ := hrel; have A3 := A2.pure K; have X3 := X2.pure K; have b1 := A3.at 1 rfl; obtain ⟨c0, c1, c2⟩ := ak.out _ K; by_cases af : j < zw.length
  ·have bg : (j : Int) < (zw.length : Int) := by omega
   have bm : (0 : Int) ≤ (j : Int) := by omega
   have M := az.out.pure K; obtain ⟨g2, ay, rfl⟩ := M.s.addrB af; obtain ⟨id, ah⟩ := qx (zw[j].id); have bb := qq (fun (v : World) (h : Below wr.heap.size wr v) => show v.cell? ⟨g2, ay + j * 11, none⟩ = some (.int .u64 id) from (M.s.pure h).get j af 0 (.int .u64 id) (by rw [← ah]; rfl)); have Y := qq (fun (v : World) (h : Below wr.heap.size wr v) => ak.out v (K.trans (h.mono K.size))); have a1 : j < (zw.map MsT.m).length := by rw [jf]; exact af
   have al := qq (show (zw.map MsT.m)[j].id = id by rw [zq, ← ah]; rfl); obtain ⟨b, a0⟩ := qx (id == A); have av := qq (show decide (id = A) = b by rw [← a0]; rw [Bool.eq_iff_iff, qm, beq_iff_eq]); clear M ah; go_upto_region 7 with fail; clear b1 c0 c1 c2; have hb := aan (qz wr.heap.size wr); refine aal (fun v => Below wr.heap.size wr v) hb (fun E => ?_); refine tkH 0 E ?_; refine tkF 1 E ?_ (fun v H => (A3.pure H).at 1 rfl); refine tkH 2 E ?_; refine tkH 3 E ?_; refine tkH 4 E ?_; refine tkF 5 E ?_ (fun v H => Y.out _ H); refine tkH 6 E ?_; refine tkH 7 E ?_; refine tkH 8 E ?_; refine tkH 9 E ?_ (hy := fun v H => by (try dsimp only at H); have q := bb.out _ H; clear H; go_simp; (try with_reducible rfl)); refine tkH 10 E ?_; refine tkF 11 E ?_ (fun v H => (X3.pure H).at 1 rfl); refine tkH 12 E ?_; refine ah9 ?_; have ar := K.trans (hb.mono K.size); cases b
   ·have ax := qq (show ∀ x, (h : x < (zw.map MsT.m).length) → x < j + 1 → decide ((zw.map MsT.m)[x].id = A) = false from fun x h hj => by
     rcases Nat.lt_or_ge x j with q | q
     ·exact ad.out x h q
     ·obtain rfl : x = j := by omega
      rw [al.out]; exact av.out)
    go_wp2; go_roundw
    case rel => exact ⟨j + 1, by omega, by go_num, ax, ar⟩
    case measure => simp [intOf]; omega
   ·have ac := qq (bfo (p := fun m => decide (m.id = A)) a1 ad.out (by rw [al.out]; exact av.out))
    go_wp2; go_ret; exact ⟨by rw [aw.out, ac.out]; rfl, X.trans (ar.mono X.size)⟩
  ·obtain rfl : j = zw.length := by omega
   have ac := qq (be4 (p := fun m => decide (m.id = A)) (fun x h => ad.out x h (by rw [jf] at h; exact h))); go_wp2; go_ret; exact ⟨by rw [aw.out, ac.out]; rfl, X.trans (K.mono X.size)⟩
theorem bgt (w : World) (t : StT) (E : ByteArray) (F : Int) (P : Nat → Prop) (hR : StRd P w t) (hS : SmSt t) : Calls prog 58 #[t.arg, .agg #[.string E, .int .u64 F]] w fun e w' => e = .returned (.int .i64 ((aa8 (ace t.s.zk) ⟨E, F⟩ : Nat))) ∧ Below w.heap.size w w' := by
 obtain ⟨nx, O, qc, M, K, W, X, qs, zk, hs, rfl, -, -, -⟩ := hR.open
 rw [StT.arg_mk]
 have z := ((qz w.heap.size w).alloc (qj _) (.cells #[.int .u64 nx, .slice O qs.length qc, .slice M zk.length K, .slice W hs.length X] 27)).alloc (by simp) (.cells #[.string E, .int .u64 F] 68)
 have A1 := (Blk.new w [.int .u64 nx, .slice O qs.length qc, .slice M zk.length K, .slice W hs.length X] 27).alloc (.cells #[.string E, .int .u64 F] 68)
 have X1 := Blk.newE (w.alloc (.cells #[.int .u64 nx, .slice O qs.length qc, .slice M zk.length K, .slice W hs.length X] 27)) [.string E, .int .u64 F] 68 (w.heap.size + 1) (by simp)
 have ai := qq (hR.pure z)
 have aw := qq hS
 have bj : zk.length ≤ 12 := hS.b
 have a0 : (zk.length : Int) ≤ 12 := by omega
 obtain ⟨R, ab⟩ : ∃ R : Nat, aa8 (ace (zk.map BrT.b)) ⟨E, F⟩ = R := ⟨_, rfl⟩
 have ah : aa8 (ace (StT.mk nx (.slice O qs.length qc) (.slice M zk.length K) (.slice W hs.length X) qs zk hs).s.zk) ⟨E, F⟩ = R := ab
 rw [ah]
 have ao := qq ab
 clear ah hR hS ab
 go_enter func58, ntmps58
 go_upto_region 1 with fail
 obtain ⟨u, hu⟩ := zj ((w.alloc (.cells #[.int .u64 nx, .slice O qs.length qc, .slice M zk.length K, .slice W hs.length X] 27)).alloc (.cells #[.string E, .int .u64 F] 68))
 rw [← hu] at z A1 X1 ai ⊢
 clear hu
 go_wp2
 go_loopw [5, 6, 7] (fun Y s6 U wr => ∃ i c : Nat, i ≤ zk.length ∧ s6 = .int .i64 i ∧ Y = .int .i64 c ∧ Hid (c = aa8 (ace ((zk.map BrT.b).take i)) ⟨E, F⟩) ∧ c ≤ 20 * i ∧ Below u.heap.size u wr) (fun Y s6 U _ => zk.length - (intOf s6).toNat)
 case atStart => exact ⟨0, 0, Nat.zero_le _, rfl, rfl, qq rfl, qj _, qz _ _⟩
 case round =>
  obtain ⟨i, c, hi, rfl, rfl, ak, bi, A⟩ := hrel; have A2 := A1.pure A; have X2 := X1.pure A; have b2 := A2.at 2 rfl; by_cases hit : i < zk.length
  ·have bb : (i : Int) < (zk.length : Int) := by omega
   have bf : (0 : Int) ≤ (i : Int) := by omega
   have aa := ai.out.pure A; have Z : Slc aa7 5 wr (.slice M zk.length K) zk := aa.b; obtain ⟨g, off, rfl⟩ := Z.addrB hit; obtain ⟨xf, xg, xb, bl, bm, au, ax, zu, G, hx, -, -, -⟩ := adq Z hit (aa.e _ (qy hit)); have ad := aa.e _ (qy hit); have ac := (aw.out.bs _ (qy hit)).t; rw [hx] at ad ac; have ac : G.length ≤ 20 := ac; have I : Slc abc 2 wr (.slice au G.length ax) G := ad.s
   have ar := qq (show ace ((zk.map BrT.b).take (i + 1)) = ace ((zk.map BrT.b).take i) ++ G by
    unfold ace; rw [jx (by rw [jf]; exact hit), List.flatMap_append, zq, hx]
    simp [BrT.b])
   have af := qq (fun (v : World) (h : Below wr.heap.size wr v) => ach (Z.pure h) hit hx); have an := qq I; have a1 : (G.length : Int) ≤ 20 := by omega
   obtain ⟨wo, rfl⟩ := zj wr; have al := A; clear aa Z hx ad I A; go_wp2; clear b2; go_loopw [5, 7] (fun Y U wr => ∃ j d : Nat, j ≤ G.length ∧ U = .int .i64 j ∧ Y = .int .i64 d ∧ Hid (d = c + aa8 (G.take j) ⟨E, F⟩) ∧ d ≤ c + j ∧ Below wo.heap.size wo wr) (fun Y U _ => G.length - (intOf U).toNat)
   case atStart => exact ⟨0, c, Nat.zero_le _, rfl, rfl, qq (by simp [aa8]), qj _, qz _ _⟩
   case round =>
    obtain ⟨j, d, hj, rfl, rfl, hd, bg, A⟩ := hrel; have A3 := A2.pure A; have X3 := X2.pure A; have b2 := A3.at 2 rfl; obtain ⟨c0, c1, c2, c3, c4⟩ := af.out _ A; have bd : (d : Int) ≤ 1000 := by omega
    have hd0 : (0 : Int) ≤ (d : Int) := by omega
    have bh : IntKind.i64.wrap ((d : Int) + 1) = (d : Int) + 1 := by rw [IntKind.wrap_i64]; omega
    by_cases N : j < G.length
    ·have az : (j : Int) < (G.length : Int) := by omega
     have bk : (0 : Int) ≤ (j : Int) := by omega
     have I := an.out.pure A; obtain ⟨g2, ag, rfl⟩ := I.addrB N; obtain ⟨q2, i2, hy, -, -⟩ := ado I N; have ay := qq (fun (v : World) (h : Below wr.heap.size wr v) => show v.cell? ⟨g2, ag + j * 2, none⟩ = some (.string q2) ∧ v.cell? ⟨g2, ag + j * 2 + 1, none⟩ = some (.int .u64 i2) from ⟨(I.pure h).get j N 0 (.string q2) (by rw [hy]; rfl), (I.pure h).get j N 1 (.int .u64 i2) (by rw [hy]; rfl)⟩); have av := qq (fun (v : World) (h : Below wr.heap.size wr v) => af.out v (A.trans (h.mono A.size))); obtain ⟨b, ae⟩ := qx (acz ⟨q2, i2⟩ ⟨E, F⟩); have hq := fun (u : World) => (bah u q2 E i2 F).trans (show _ = Result.ok (.bool b) u by rw [ae])
     have am := qq (show aa8 (G.take (j + 1)) ⟨E, F⟩ = aa8 (G.take j) ⟨E, F⟩ + if b = true then 1 else 0 by
      rw [jx N, aa6, acw, adb, hy, ae, Nat.zero_add])
     clear I hy ae; go_upto_region 8 with fail; clear b2 c0 c1 c2 c3 c4; have hb := aan (qz wr.heap.size wr); refine aal (fun v => Below wr.heap.size wr v) hb (fun H => ?_); refine tkH 0 H ?_; refine tkF 1 H ?_ (fun v J => (A3.pure J).at 2 rfl); refine tkH 2 H ?_; refine tkH 3 H ?_; refine tkH 4 H ?_; refine tkF 5 H ?_ (fun v J => av.out _ J); refine tkH 6 H ?_; refine tkH 7 H ?_; refine tkF 8 H ?_ (fun v J => ay.out _ J); refine tkF 9 H ?_ (fun v J => (X3.pure J).a2); refine tkH 10 H ?_; refine ah9 ?_; clear hq; have aj := A.trans (hb.mono A.size); cases b
     ·go_wp2
      go_roundw
      case rel => exact ⟨j + 1, d, by omega, by go_num, rfl, qq (by rw [am.out, hd.out]; rfl), by omega, aj⟩
      case measure => simp [intOf]; omega
     ·go_wp2
      go_roundw
      case rel => exact ⟨j + 1, d + 1, by omega, by go_num, by go_num, qq (by rw [am.out, hd.out]; rfl), by omega, aj⟩
      case measure => simp [intOf]; omega
    ·obtain rfl : j = G.length := by omega
     go_wp2; go_roundw
     case rel => exact ⟨i + 1, d, by omega, by go_num, rfl, qq (by rw [ar.out, aa6, hd.out, ak.out, js]), by omega, al.trans (A.mono al.size)⟩
     case measure => simp [intOf]; omega
  ·obtain rfl : i = zk.length := by omega
   have aq := qq (show c = R by rw [ak.out, ← ao.out, List.take_of_length_le (by rw [jf]; exact qj _)]); go_wp2; go_ret; exact ⟨by rw [← aq.out]; rfl, z.trans (A.mono z.size)⟩
def bs (l : List UInt8) : ByteArray := ⟨l.toArray⟩
theorem bcu {P : Prop} (h : P := by
 go_enter func104, ntmps104
 go_wp2
 refine bodyPost_ret (by simp [results, Tryz.results104, go_sem]; rfl) rfl ?_
 exact ⟨rfl, rfl⟩) : P := h
theorem bgu (w : World) (k : Int) : Calls prog 104 #[.int .u8 k] w fun e w' => e = .returned (.tuple #[.bool (uN k), .bool (uM k), .bool (uX k), .bool (uW k), .bool (!(us k == 0))]) ∧ w = w' := by
 by_cases J : k = 1
 ·subst J
  exact bcu
 by_cases G : k = 2
 ·subst G
  exact bcu
 by_cases H : k = 3
 ·subst H
  exact bcu
 by_cases K : k = 4
 ·subst K
  exact bcu
 by_cases I : k = 5
 ·subst I
  exact bcu
 by_cases E : k = 6
 ·subst E
  exact bcu
 by_cases A : k = 7
 ·subst A
  exact bcu
 by_cases F : k = 8
 ·subst F
  exact bcu
 by_cases M : k = 9
 ·subst M
  exact bcu
 have N : us k = 0 := by unfold us; simp only [J, G, H, K, I, E, A, F, M, if_false, or_self]
 have b1 : (k == 1) = false := ju.2 J; have Z : decide (k = 1) = false := qg J
 have b2 : (k == 2) = false := ju.2 G; have d2 : decide (k = 2) = false := qg G
 have b3 : (k == 3) = false := ju.2 H; have d3 : decide (k = 3) = false := qg H
 have Y : (k == 4) = false := ju.2 K; have d4 : decide (k = 4) = false := qg K
 have X : (k == 5) = false := ju.2 I; have d5 : decide (k = 5) = false := qg I
 have W : (k == 6) = false := ju.2 E; have d6 : decide (k = 6) = false := qg E
 have U : (k == 7) = false := ju.2 A; have d7 : decide (k = 7) = false := qg A
 have b8 : (k == 8) = false := ju.2 F; have d8 : decide (k = 8) = false := qg F
 have b9 : (k == 9) = false := ju.2 M; have z : decide (k = 9) = false := qg M
 have O := qq N
 clear N
 go_enter func104, ntmps104
 go_wp2
 refine bodyPost_ret (by simp [results, Tryz.results104, go_sem]; rfl) rfl ?_
 exact ⟨by unfold uN uM uX uW; rw [O.out]; rfl, rfl⟩
theorem bec (w : World) (n : Int) : Calls prog 106 #[.int .u64 n] w fun e w' => e = .returned (.bool (ah2 n)) ∧ w = w' := by
 unfold ah2
 by_cases A : 1 ≤ n
 ·have E : decide (1 ≤ n) = true := qp A
  obtain ⟨b, F⟩ := qx (decide (n ≤ 1099511627776)); rw [E, F]; clear A; go_enter func106, ntmps106; go_wp2; go_ret; exact ⟨by simp, rfl⟩
 ·have E : decide (1 ≤ n) = false := qg A
  rw [E]; clear A; go_enter func106, ntmps106; go_wp2; go_ret; exact ⟨by simp, rfl⟩
theorem beg {P : Prop} (h : P := by
 go_enter func59, ntmps59
 go_wp2
 go_ret
 exact ⟨rfl, hB⟩) : P := h
theorem be7 (w : World) (J : Int) (A F : ByteArray) : Calls prog 59 #[.agg #[.int .u32 J, .string A, .string F]] w fun e w' => e = .returned (.int .i64 (if Xn.okB (J, A, F) then 0 else 40)) ∧ Below w.heap.size w w' := by
 have hB := (qz w.heap.size w).alloc (qj _) (.cells #[.int .u32 J, .string A, .string F] 30)
 have U := Blk.new w [.int .u32 J, .string A, .string F] 30
 have X := U.at 1 rfl; have a2 := U.at 2 rfl
 obtain ⟨k, E⟩ := qx (Xn.okB (J, A, F))
 rw [E]
 unfold Xn.okB at E
 by_cases H : 0 < A.size
 ·by_cases K : A.size ≤ 64
  ·by_cases M : F.size ≤ 64
   ·obtain rfl : true = k := by rw [← E]; simp [H, K, M]
    have G : ¬ ((A.size : Int) < 1) := by omega
    have N : decide ((A.size : Int) < 1) = false := qg G; have I : ¬ ((64 : Int) < (A.size : Int)) := by omega
    have O : decide ((64 : Int) < (A.size : Int)) = false := qg I; have f2 : ¬ ((64 : Int) < (F.size : Int)) := by omega
    have W : decide ((64 : Int) < (F.size : Int)) = false := qg f2; clear E H K M; exact beg
   ·obtain rfl : false = k := by rw [← E]; simp [M]
    have G : ¬ ((A.size : Int) < 1) := by omega
    have N : decide ((A.size : Int) < 1) = false := qg G; have I : ¬ ((64 : Int) < (A.size : Int)) := by omega
    have O : decide ((64 : Int) < (A.size : Int)) = false := qg I; have f2 : ((64 : Int) < (F.size : Int)) := by omega
    have W : decide ((64 : Int) < (F.size : Int)) = true := qp f2; clear E H K M; exact beg
  ·obtain rfl : false = k := by rw [← E]; simp [K]
   have G : ¬ ((A.size : Int) < 1) := by omega
   have N : decide ((A.size : Int) < 1) = false := qg G; have I : ((64 : Int) < (A.size : Int)) := by omega
   have O : decide ((64 : Int) < (A.size : Int)) = true := qp I; clear E H K; exact beg
 ·obtain rfl : false = k := by rw [← E]; simp [H]
  have G : ((A.size : Int) < 1) := by omega
  have N : decide ((A.size : Int) < 1) = true := qp G; clear E H; exact beg
theorem Own.byte4 (w : World) (K J I H : UInt8) (A G E F : Int) (N : A = (K.toNat : Int)) (M : G = (J.toNat : Int)) (O : E = (I.toNat : Int)) (U : F = (H.toNat : Int)) {base : Nat} (W : base ≤ w.heap.size) :
 Own base 5 1 aax (w.alloc (.cells #[.int .u8 A, .int .u8 G, .int .u8 E, .int .u8 F] 5)) (.slice (some ⟨w.heap.size, 0, none⟩) 4 4) [K, J, I, H] :=
 ⟨by simp [aax], .inr ⟨w.heap.size, 4, #[.int .u8 A, .int .u8 G, .int .u8 E, .int .u8 F], rfl, W, heap_alloc_new w _, by simp, by unfold maxLen; omega, by simp, by subst N M O U; simp [aax]⟩⟩
theorem bgv (A red : Bool) (key mid : ByteArray) (v : V) : IntKind.u8.wrap (IntKind.u8.wrap ((if A then 1 else 0) + (if red then 2 else 0)) + (if key.toList = [] then 0 else 4)) = ((UInt8.ofNat (fl1 ⟨key, A, red, mid, v⟩)).toNat : Int) := by
 have h := ax7 ⟨key, A, red, mid, v⟩
 rw [UInt8.toNat_ofNat', Nat.mod_eq_of_lt (by omega)]
 unfold fl1
 by_cases E : key.size = 0
 ·have := List.isEmpty_iff.1 (agt E)
  cases A <;> cases red <;> simp [E, this] <;> rfl
 ·have : ¬ key.toList = [] := fun e => E (by rw [← acr, e]; rfl)
  cases A <;> cases red <;> simp [E, this] <;> rfl
theorem be8 {P : Prop} (h : P := by
 try rw [hl7] at O6 ⊢
 clear hl6 hl7
 obtain ⟨a0, a1, a2, a3, a4, a5, a6, a7, a8⟩ := A6.a9
 obtain ⟨-, hcn, hmay⟩ := al3 hav.out
 have hlb := qq (show xt.length ≤ 1000000 by have h4 := aiv _ hmay 200 hcn; rw [hxth.out] at h4; omega)
 have hmayh := qq hmay
 have hbig := qq (show Big ((VT.mk 168 tn ts (.slice tka tks.length tkc) (.slice tla tl.length tlc) tks tl).v.bytes.length + 100) by have h4 := hlb.out; rw [hxth.out]; unfold Big; omega)
 have hpl := qq (show (l6 ++ xt).length ≤ 2000000 by have h4 := hlb.out; have h5 := hln.out; rw [jz]; omega)
 have hadd : ¬ 9223372036854775807 < s1.size + (part (l6 ++ xt)).length := by have h1 := hs1z.out; have h2 := hpl.out; rw [awd]; omega
 have hby := bf7 (VT.mk 168 tn ts (.slice tka tks.length tkc) (.slice tla tl.length tlc) tks tl) _ _ R6 hmayh.out hbig.out
 rw [VT.arg_mk, hxth.out] at hby
 have hbyh := qq hby
 clear hcn hmay hby
 go_wp2_with (first | (go_at_call 188; (with_reducible refine (hbyh.out).mono ?_); rintro e w7 ⟨r7, rfl, O7, hB7⟩; obtain ⟨ra, rc, rfl⟩ := aap O7; have P7 := O6.pure hB7; have hbb := hb.trans (hB7.mono hb.size)) | (at_builtin; refine aaj (base := w4.heap.size) rfl (.tmp 51) (.tmp 54) 189 5 rfl abx aaa aay _ l6 rfl P7 _ xt rfl (O7.slc aaa) (by have := hln.out; have := hlb.out; unfold maxLen; omega) (by have := hln.out; have := hlb.out; omega) hbb.size ?_; intro v8 w8 hO8 hgr8 hfr8 hsh8; have hbx := hbb.grown hgr8 hbb.size (fun j e => P7.ge e); obtain ⟨va8, vc8, rfl⟩ := aap hO8; rw [jz] at hO8) | (go_at_call 185; (with_reducible refine (bez _ _ _ (hO8.slc aaa) hpl.out).mono ?_); rintro e w9 ⟨rfl, hB9⟩; have hb9 := hbx.trans (hB9.mono hbx.size)))
 go_ret2
 exact ⟨by rw [hfin.out, hb3.out]; rfl, hT4.trans (hb9.mono hT4.size)⟩) : P := h
theorem bgf (t : PT) (P : Nat → Prop) (w : World) (hR : Rd P w t.app) : Calls prog 152 #[t.arg] w fun e w' => e = .returned (.tuple #[.string (if t.p.chk = 0 then t.p.text else ⟨#[]⟩), .int .i64 t.p.chk]) ∧ Below w.heap.size w w' := by
 obtain ⟨key, M, red, mid, tv⟩ := t
 have hR : Rd _ _ tv := hR
 obtain ⟨F, tn, ts, tka, tkc, tla, tlc, tks, tl, rfl, -⟩ := hR.open
 have aa := (qz w.heap.size w).alloc (qj _) (.cells #[.string key, .bool M, .bool red, .string mid, .int .u8 F, .int .u64 tn, .string ts, .slice tka tks.length tkc, .slice tla tl.length tlc] 58)
 have A1 := Blk.new w [.string key, .bool M, .bool red, .string mid, .int .u8 F, .int .u64 tn, .string ts, .slice tka tks.length tkc, .slice tla tl.length tlc] 58
 have R1 := hR.pure aa
 obtain ⟨E, ak⟩ := qx ((PT.mk key M red mid (VT.mk F tn ts (.slice tka tks.length tkc) (.slice tla tl.length tlc) tks tl)).p)
 obtain ⟨cx, aj⟩ := qx E.chk
 have an := (bfv (PT.mk key M red mid (VT.mk F tn ts (.slice tka tks.length tkc) (.slice tla tl.length tlc) tks tl)) P _ R1)
 rw [ak, aj, PT.arg_mk] at an
 rw [ak, aj, PT.arg_mk]
 have av := qq an
 have X := qq (show E = Pr.mk key M red mid (VT.mk F tn ts (.slice tka tks.length tkc) (.slice tla tl.length tlc) tks tl).v from ak.symm)
 have al := qq aj
 clear an ak aj
 obtain ⟨a0, a1, a2, a3, a4, a5, a6, a7, a8⟩ := A1.a9
 go_enter func152, ntmps152
 by_cases h0 : cx = 0
 rotate_left 1
 ·have h1 : (cx == 0) = false := ju.2 h0
  have h2 : (cx != 0) = true := bne_iff_ne.2 h0; have bb := qq (show cx = 90 by rcases bat E with e | e; exact jp (al.out.symm.trans e) h0; exact al.out.symm.trans e); rw [qk h0]; clear h0; go_wp2_with (go_at_call 184; refine (av.out).mono ?_; rintro e H ⟨rfl, z⟩; have ab := aa.trans (z.mono aa.size)); go_ret2; exact ⟨by rw [bb.out]; rfl, ab⟩
 subst h0
 have ag := akr.1 al.out
 have am := qq (show key.size ≤ 255 by have := ag.1; rw [X.out] at this; exact this)
 have Y := qq (show mid.size ≤ 255 by have := ag.2.1; rw [X.out] at this; exact this)
 have ba := qq (show (VT.mk F tn ts (.slice tka tks.length tkc) (.slice tla tl.length tlc) tks tl).v = V.zero ∨ F = 168 ∧ (VT.mk F tn ts (.slice tka tks.length tkc) (.slice tla tl.length tlc) tks tl).v.chk = 0 by have := ag.2.2; rw [X.out] at this; rcases this with e | e; exact .inl e; exact .inr ⟨by rw [← (ate : (VT.mk F tn ts (.slice tka tks.length tkc) (.slice tla tl.length tlc) tks tl).v.kind = F)]; exact e.1, e.2⟩)
 clear ag
 rw [qw rfl]
 go_wp2_with (go_at_call 184; refine (av.out).mono ?_; rintro e H ⟨rfl, z⟩; have A2 := A1.pure z; have R2 := R1.pure z; have ab := aa.trans (z.mono aa.size); clear a0 a1 a2 a3 a4 a5 a6 a7 a8)
 have ac := qq (fun (u : World) (h : Below H.heap.size H u) => A2.pure h)
 have ao := qq (bgv M red key mid (VT.mk F tn ts (.slice tka tks.length tkc) (.slice tla tl.length tlc) tks tl).v)
 obtain ⟨W, ar⟩ := qx (UInt8.ofNat (fl1 ⟨key, M, red, mid, (VT.mk F tn ts (.slice tka tks.length tkc) (.slice tla tl.length tlc) tks tl).v⟩))
 have aw := qq (show aoh E = [4, 1, 0, W] ++ stx key by rw [X.out, ← ar]; rfl)
 rw [ar] at ao
 obtain ⟨s1, ay⟩ : ∃ s1 : ByteArray, (⟨(part ([4, 1, 0, W] ++ stx key)).toArray⟩ : ByteArray) = s1 := ⟨_, rfl⟩
 have Z := qq ay
 clear ar ay
 have hb := abn H
 refine wp_region_held_drew (S := fun u => Below H.heap.size H u) (by kernel_rfl) hb (fun A => ?_)
 refine tkH 0 A ?_
 refine tkF 1 A ?_ (fun u G => (ac.out u G).at 1 rfl)
 refine tkH 3 A ?_
 refine tkF 4 A ?_ (fun u G => (ac.out u G).at 2 rfl)
 refine tkH 7 A ?_
 refine tkF 8 A ?_ (fun u G => (ac.out u G).at 0 rfl)
 refine tkH 9 A ?_
 refine tkH 13 A ?_
 refine tkF 14 A ?_ (fun u G => (ac.out u G).at 0 rfl)
 refine aai 2 rfl (fun K hK => ?_)
 go_simp
 go_at_call 187
 (with_reducible refine (bc6 _ _ _).mono ?_)
 rintro e w3 ⟨rfl, rfl⟩
 refine hK.out _ _ hb (fun A => ?_)
 clear hK K
 (try simp only [Act.put, lsT, lsZ, lsS])
 refine aai 5 rfl (fun K hK => ?_)
 go_simp
 go_at_call 187
 (with_reducible refine (bc6 _ _ _).mono ?_)
 rintro e w3 ⟨rfl, rfl⟩
 refine hK.out _ _ hb (fun A => ?_)
 clear hK K
 (try simp only [Act.put, lsT, lsZ, lsS])
 refine tkH 6 A ?_
 refine aai 10 rfl (fun K hK => ?_)
 go_simp
 go_at_call 187
 (with_reducible refine (bc6 _ _ _).mono ?_)
 rintro e w3 ⟨rfl, rfl⟩
 refine hK.out _ _ hb (fun A => ?_)
 clear hK K
 (try simp only [Act.put, lsT, lsZ, lsS])
 refine tkH 11 A ?_
 refine aai 12 rfl (fun K hK => ?_)
 go_simp
 have O3 : Own H.heap.size 5 1 aax (World.drew (World.alloc H (.cells #[.int .u8 4, .int .u8 1, .int .u8 0, .int .u8 (IntKind.u8.wrap (IntKind.u8.wrap ((if M = true then 1 else 0) + if red = true then 2 else 0) + if key.toList = [] then 0 else 4))] 5))) (.slice (some ⟨H.heap.size, 0, none⟩) 4 4) [4, 1, 0, W] := (Own.byte4 H 4 1 0 W 4 1 0 (IntKind.u8.wrap (IntKind.u8.wrap ((if M = true then 1 else 0) + if red = true then 2 else 0) + if key.toList = [] then 0 else 4)) rfl rfl rfl ao.out (qj _)).drew
 have hb : Below H.heap.size H (World.drew (World.alloc H (.cells #[.int .u8 4, .int .u8 1, .int .u8 0, .int .u8 (IntKind.u8.wrap (IntKind.u8.wrap ((if M = true then 1 else 0) + if red = true then 2 else 0) + if key.toList = [] then 0 else 4))] 5))) := aad ((qz H.heap.size H).alloc (qj _) _)
 clear ao
 refine hK.out _ _ hb (fun A => ?_)
 clear hK K
 (try simp only [Act.put, lsT, lsZ, lsS])
 refine aai 15 rfl (fun K hK => ?_)
 go_simp
 go_at_call 186
 (with_reducible refine (bei H.heap.size _ _ [4, 1, 0, W] key O3 hb.size am.out (by unfold Big; simp)).mono ?_)
 rintro e w3 ⟨r3, rfl, O4, ax⟩
 have hb := hb.trans ax
 refine hK.out _ _ hb (fun A => ?_)
 clear hK K
 (try simp only [Act.put, lsT, lsZ, lsS])
 refine aai 16 rfl (fun K hK => ?_)
 go_simp
 go_at_call 185
 (with_reducible refine (bez _ _ _ (O4.slc aaa) (by have h1 := aom key; have h2 := am.out; simp only [jz, jn, List.length_nil]; omega)).mono ?_)
 rintro e w4 ⟨he, az⟩
 rw [Z.out] at he
 subst he
 have hb := hb.trans (az.mono hb.size)
 refine hK.out _ _ hb (fun A => ?_)
 clear hK K
 (try simp only [Act.put, lsT, lsZ, lsS])
 refine aai 17 rfl (fun K hK => ?_)
 go_simp
 refine hK.out _ _ hb (fun A => ?_)
 clear hK K
 (try simp only [Act.put, lsT, lsZ, lsS])
 refine wpAnyH_done (by kernel_rfl) ?_ _
 have hT4 := ab.trans (hb.mono ab.size)
 have A4 := A2.pure hb; have R4 := R2.pure hb
 have hs1z := qq (show s1.size ≤ 400 by rw [← Z.out]; show (part ([4, 1, 0, W] ++ stx key)).length ≤ 400; have h1 := aom key; have h2 := am.out; rw [awd]; simp only [jz, jn, List.length_nil]; omega)
 have ah := qq (show E.text = ⟨((part ([4, 1, 0, W] ++ stx key)) ++ (if fl2 E = 0 then [] else part (ahf E))).toArray⟩ by unfold Pr.text Pr.bytes; rw [aw.out])
 have ai := qq (show fl2 E = (if mid.size = 0 then 0 else 1) + (if F = 168 then 2 else 0) by rw [X.out]; unfold fl2; simp only [(ate : (VT.mk F tn ts (.slice tka tks.length tkc) (.slice tla tl.length tlc) tks tl).v.kind = F)])
 have aq := qq (show ahf E = [4, 3, 0, UInt8.ofNat (fl2 E)] ++ stx mid ++ (if F = 168 then (VT.mk F tn ts (.slice tka tks.length tkc) (.slice tla tl.length tlc) tks tl).v.bytes else []) by rw [X.out]; unfold ahf; simp only [(ate : (VT.mk F tn ts (.slice tka tks.length tkc) (.slice tla tl.length tlc) tks tl).v.kind = F)])
 clear ac hb az O4 ax A2 R2 aa A1 R1 z ab aw
 generalize (if M = true then (1 : Int) else 0) = x1
 generalize (if red = true then (2 : Int) else 0) = x2
 generalize (if key.toList = [] then (0 : Int) else 4) = x3
 obtain ⟨a0, a1, a2, a3, a4, a5, a6, a7, a8⟩ := A4.a9
 by_cases hk : F = 168
 ·subst hk
  have hav := qq (show (VT.mk 168 tn ts (.slice tka tks.length tkc) (.slice tla tl.length tlc) tks tl).v.chk = 0 by
   rcases ba.out with e | e
   ·have := congrArg V.kind e
    rw [ate] at this; exact jp this (by decide)
   ·exact e.2)
  by_cases I : mid.size = 0
  ·obtain rfl : mid = ⟨#[]⟩ := af5 I
   have N := qq I; clear I; have U := qq (show fl2 E = 2 by rw [ai.out]; rw [qw N.out, qw rfl]); obtain ⟨xt, O⟩ := qx ((VT.v (VT.mk 168 tn ts (.slice tka tks.length tkc) (.slice tla tl.length tlc) tks tl)).bytes); have hxth := qq O; have hb3 := qq (show ahf E = ([4, 3, 0, 2] ++ stx ⟨#[]⟩) ++ xt by rw [aq.out, U.out]; rw [qw rfl, ← O]; rfl); have hfin := qq (show E.text = s1 ++ ⟨(part (ahf E)).toArray⟩ by rw [ah.out, qk (by rw [U.out]; decide), ← Z.out, bgc]); clear N ; clear O; go_upto_region 7 with fail; have J := qq (fun (u : World) (h : Below w4.heap.size w4 u) => A4.pure h); have ae := qq (fun (u : World) (h : Below w4.heap.size w4 u) => R4.pure h); clear a0 a1 a2 a3 a4 a5 a6 a7 a8; have hb := abn w4; refine wp_region_held_drew (S := fun u => Below w4.heap.size w4 u) (by kernel_rfl) hb (fun A => ?_); refine tkH 0 A ?_; refine tkF 1 A ?_ (fun u G => (J.out u G).at 3 rfl); refine tkH 2 A ?_; refine tkH 4 A ?_; refine tkH 8 A ?_; refine tkF 9 A ?_ (fun u G => (J.out u G).at 3 rfl); refine aai 3 rfl (fun K hK => ?_); go_simp; go_at_call 187
   (with_reducible refine (bc6 _ _ _).mono ?_)
   rintro e w5 ⟨rfl, rfl⟩; refine hK.out _ _ hb (fun A => ?_); clear hK K; (try simp only [Act.put, lsT, lsZ, lsS]); refine aai 5 rfl (fun K hK => ?_); go_simp; go_at_call 187
   (with_reducible refine (bc6 _ _ _).mono ?_)
   rintro e w5 ⟨rfl, rfl⟩; refine hK.out _ _ hb (fun A => ?_); clear hK K; (try simp only [Act.put, lsT, lsZ, lsS]); refine tkH 6 A ?_; refine aai 7 rfl (fun K hK => ?_); go_simp; have O5 : Own w4.heap.size 5 1 aax (World.drew (World.alloc w4 (.cells #[.int .u8 4, .int .u8 3, .int .u8 0, .int .u8 (IntKind.u8.wrap 2)] 5))) (.slice (some ⟨w4.heap.size, 0, none⟩) 4 4) [4, 3, 0, 2] := (Own.byte4 w4 4 3 0 2 4 3 0 (IntKind.u8.wrap 2) rfl rfl rfl rfl (qj _)).drew; have hb : Below w4.heap.size w4 (World.drew (World.alloc w4 (.cells #[.int .u8 4, .int .u8 3, .int .u8 0, .int .u8 (IntKind.u8.wrap 2)] 5))) := aad ((qz w4.heap.size w4).alloc (qj _) _); refine hK.out _ _ hb (fun A => ?_); clear hK K; (try simp only [Act.put, lsT, lsZ, lsS]); refine aai 10 rfl (fun K hK => ?_); go_simp; go_at_call 186
   (with_reducible refine (bei w4.heap.size _ _ [4, 3, 0, 2] ⟨#[]⟩ O5 hb.size Y.out (by unfold Big; simp)).mono ?_)
   rintro e w6 ⟨r6, rfl, O6, ad⟩; have hb := hb.trans ad; refine hK.out _ _ hb (fun A => ?_); clear hK K; (try simp only [Act.put, lsT, lsZ, lsS]); refine aai 11 rfl (fun K hK => ?_); go_simp; refine hK.out _ _ hb (fun A => ?_); clear hK K; (try simp only [Act.put, lsT, lsZ, lsS]); refine wpAnyH_done (by kernel_rfl) ?_ _; obtain ⟨qa, qc, rfl⟩ := aap O6; have A6 := J.out _ hb; have R6 := ae.out _ hb; have hln := qq (show ([4, 3, 0, 2] ++ stx ⟨#[]⟩).length ≤ 300 by have h1 := aom ⟨#[]⟩; have h2 := Y.out; simp only [jz, jn, List.length_nil]; omega); obtain ⟨l6, hl6⟩ := qx ([4, 3, 0, 2] ++ stx ⟨#[]⟩); have au := qq hl6; rw [hl6] at O6 hln hb3 ⊢; have hl7 : (4 :: 3 :: 0 :: 2 :: stx ⟨#[]⟩).length = l6.length := by rw [← hl6]; rfl
   exact be8
  ·have h1 : ¬ mid.toList = [] := fun e => I (by rw [← acr, e]; rfl)
   have h2 := aeg (show 0 < mid.size by omega); have N := qq I; clear I; have U := qq (show fl2 E = 3 by rw [ai.out]; rw [qk N.out, qw rfl]); obtain ⟨xt, O⟩ := qx ((VT.v (VT.mk 168 tn ts (.slice tka tks.length tkc) (.slice tla tl.length tlc) tks tl)).bytes); have hxth := qq O; have hb3 := qq (show ahf E = ([4, 3, 0, 3] ++ stx mid) ++ xt by rw [aq.out, U.out]; rw [qw rfl, ← O]; rfl); have hfin := qq (show E.text = s1 ++ ⟨(part (ahf E)).toArray⟩ by rw [ah.out, qk (by rw [U.out]; decide), ← Z.out, bgc]); clear N ; clear O; go_upto_region 7 with fail; have J := qq (fun (u : World) (h : Below w4.heap.size w4 u) => A4.pure h); have ae := qq (fun (u : World) (h : Below w4.heap.size w4 u) => R4.pure h); clear a0 a1 a2 a3 a4 a5 a6 a7 a8; have hb := abn w4; refine wp_region_held_drew (S := fun u => Below w4.heap.size w4 u) (by kernel_rfl) hb (fun A => ?_); refine tkH 0 A ?_; refine tkF 1 A ?_ (fun u G => (J.out u G).at 3 rfl); refine tkH 2 A ?_; refine tkH 4 A ?_; refine tkH 8 A ?_; refine tkF 9 A ?_ (fun u G => (J.out u G).at 3 rfl); refine aai 3 rfl (fun K hK => ?_); go_simp; go_at_call 187
   (with_reducible refine (bc6 _ _ _).mono ?_)
   rintro e w5 ⟨rfl, rfl⟩; refine hK.out _ _ hb (fun A => ?_); clear hK K; (try simp only [Act.put, lsT, lsZ, lsS]); refine aai 5 rfl (fun K hK => ?_); go_simp; go_at_call 187
   (with_reducible refine (bc6 _ _ _).mono ?_)
   rintro e w5 ⟨rfl, rfl⟩; refine hK.out _ _ hb (fun A => ?_); clear hK K; (try simp only [Act.put, lsT, lsZ, lsS]); refine tkH 6 A ?_; refine aai 7 rfl (fun K hK => ?_); go_simp; have O5 : Own w4.heap.size 5 1 aax (World.drew (World.alloc w4 (.cells #[.int .u8 4, .int .u8 3, .int .u8 0, .int .u8 (IntKind.u8.wrap 3)] 5))) (.slice (some ⟨w4.heap.size, 0, none⟩) 4 4) [4, 3, 0, 3] := (Own.byte4 w4 4 3 0 3 4 3 0 (IntKind.u8.wrap 3) rfl rfl rfl rfl (qj _)).drew; have hb : Below w4.heap.size w4 (World.drew (World.alloc w4 (.cells #[.int .u8 4, .int .u8 3, .int .u8 0, .int .u8 (IntKind.u8.wrap 3)] 5))) := aad ((qz w4.heap.size w4).alloc (qj _) _); refine hK.out _ _ hb (fun A => ?_); clear hK K; (try simp only [Act.put, lsT, lsZ, lsS]); refine aai 10 rfl (fun K hK => ?_); go_simp; go_at_call 186
   (with_reducible refine (bei w4.heap.size _ _ [4, 3, 0, 3] mid O5 hb.size Y.out (by unfold Big; simp)).mono ?_)
   rintro e w6 ⟨r6, rfl, O6, ad⟩; have hb := hb.trans ad; refine hK.out _ _ hb (fun A => ?_); clear hK K; (try simp only [Act.put, lsT, lsZ, lsS]); refine aai 11 rfl (fun K hK => ?_); go_simp; refine hK.out _ _ hb (fun A => ?_); clear hK K; (try simp only [Act.put, lsT, lsZ, lsS]); refine wpAnyH_done (by kernel_rfl) ?_ _; obtain ⟨qa, qc, rfl⟩ := aap O6; have A6 := J.out _ hb; have R6 := ae.out _ hb; have hln := qq (show ([4, 3, 0, 3] ++ stx mid).length ≤ 300 by have h1 := aom mid; have h2 := Y.out; simp only [jz, jn, List.length_nil]; omega); obtain ⟨l6, hl6⟩ := qx ([4, 3, 0, 3] ++ stx mid); have au := qq hl6; rw [hl6] at O6 hln hb3 ⊢; have hl7 : (4 :: 3 :: 0 :: 3 :: stx mid).length = l6.length := by rw [← hl6]; rfl
   exact be8
 ·have h3 : decide (F = 168) = false := qg hk
  have h4 : (F == 168) = false := ju.2 hk; have af := qq hk; clear hk; by_cases I : mid.size = 0
  ·obtain rfl : mid = ⟨#[]⟩ := af5 I
   have N := qq I; clear I; have hfin := qq (show E.text = s1 by rw [ah.out, ai.out]; rw [qw (show (if (⟨#[]⟩ : ByteArray).size = 0 then 0 else 1) + (if F = 168 then 2 else 0) = 0 by rw [qw N.out, qk af.out]), List.append_nil]; exact Z.out); clear N af; go_wp2; go_ret2; exact ⟨by rw [hfin.out]; rfl, hT4⟩
  ·have h1 : ¬ mid.toList = [] := fun e => I (by rw [← acr, e]; rfl)
   have h2 := aeg (show 0 < mid.size by omega); have N := qq I; clear I; have U := qq (show fl2 E = 1 by rw [ai.out]; rw [qk N.out, qk af.out]); obtain ⟨xt, O⟩ := qx ([] : List UInt8); have hxth := qq O; have hb3 := qq (show ahf E = ([4, 3, 0, 1] ++ stx mid) ++ xt by rw [aq.out, U.out]; rw [qk af.out, ← O]; rfl); have hfin := qq (show E.text = s1 ++ ⟨(part (ahf E)).toArray⟩ by rw [ah.out, qk (by rw [U.out]; decide), ← Z.out, bgc]); clear N af; clear O; go_upto_region 7 with fail; have J := qq (fun (u : World) (h : Below w4.heap.size w4 u) => A4.pure h); have ae := qq (fun (u : World) (h : Below w4.heap.size w4 u) => R4.pure h); clear a0 a1 a2 a3 a4 a5 a6 a7 a8; have hb := abn w4; refine wp_region_held_drew (S := fun u => Below w4.heap.size w4 u) (by kernel_rfl) hb (fun A => ?_); refine tkH 0 A ?_; refine tkF 1 A ?_ (fun u G => (J.out u G).at 3 rfl); refine tkH 2 A ?_; refine tkH 4 A ?_; refine tkH 8 A ?_; refine tkF 9 A ?_ (fun u G => (J.out u G).at 3 rfl); refine aai 3 rfl (fun K hK => ?_); go_simp; go_at_call 187
   (with_reducible refine (bc6 _ _ _).mono ?_)
   rintro e w5 ⟨rfl, rfl⟩; refine hK.out _ _ hb (fun A => ?_); clear hK K; (try simp only [Act.put, lsT, lsZ, lsS]); refine aai 5 rfl (fun K hK => ?_); go_simp; go_at_call 187
   (with_reducible refine (bc6 _ _ _).mono ?_)
   rintro e w5 ⟨rfl, rfl⟩; refine hK.out _ _ hb (fun A => ?_); clear hK K; (try simp only [Act.put, lsT, lsZ, lsS]); refine tkH 6 A ?_; refine aai 7 rfl (fun K hK => ?_); go_simp; have O5 : Own w4.heap.size 5 1 aax (World.drew (World.alloc w4 (.cells #[.int .u8 4, .int .u8 3, .int .u8 0, .int .u8 (IntKind.u8.wrap 1)] 5))) (.slice (some ⟨w4.heap.size, 0, none⟩) 4 4) [4, 3, 0, 1] := (Own.byte4 w4 4 3 0 1 4 3 0 (IntKind.u8.wrap 1) rfl rfl rfl rfl (qj _)).drew; have hb : Below w4.heap.size w4 (World.drew (World.alloc w4 (.cells #[.int .u8 4, .int .u8 3, .int .u8 0, .int .u8 (IntKind.u8.wrap 1)] 5))) := aad ((qz w4.heap.size w4).alloc (qj _) _); refine hK.out _ _ hb (fun A => ?_); clear hK K; (try simp only [Act.put, lsT, lsZ, lsS]); refine aai 10 rfl (fun K hK => ?_); go_simp; go_at_call 186
   (with_reducible refine (bei w4.heap.size _ _ [4, 3, 0, 1] mid O5 hb.size Y.out (by unfold Big; simp)).mono ?_)
   rintro e w6 ⟨r6, rfl, O6, ad⟩; have hb := hb.trans ad; refine hK.out _ _ hb (fun A => ?_); clear hK K; (try simp only [Act.put, lsT, lsZ, lsS]); refine aai 11 rfl (fun K hK => ?_); go_simp; refine hK.out _ _ hb (fun A => ?_); clear hK K; (try simp only [Act.put, lsT, lsZ, lsS]); refine wpAnyH_done (by kernel_rfl) ?_ _; obtain ⟨qa, qc, rfl⟩ := aap O6; have A6 := J.out _ hb; have R6 := ae.out _ hb; have hln := qq (show ([4, 3, 0, 1] ++ stx mid).length ≤ 300 by have h1 := aom mid; have h2 := Y.out; simp only [jz, jn, List.length_nil]; omega); obtain ⟨l6, hl6⟩ := qx ([4, 3, 0, 1] ++ stx mid); have au := qq hl6; rw [hl6] at O6 hln hb3 ⊢; have hl7 : (4 :: 3 :: 0 :: 1 :: stx mid).length = l6.length := by rw [← hl6]; rfl
   try rw [hl7] at O6 ⊢
   clear hl6 hl7; obtain ⟨a0, a1, a2, a3, a4, a5, a6, a7, a8⟩ := A6.a9; have hbx := hb; have hpl := qq (show l6.length ≤ 2000000 by have h5 := hln.out; omega); have hadd : ¬ 9223372036854775807 < s1.size + (part l6).length := by have h1 := hs1z.out; have h2 := hpl.out; rw [awd]; omega
   go_wp2_with (go_at_call 185; (with_reducible refine (bez _ _ _ (O6.slc aaa) hpl.out).mono ?_); rintro e w9 ⟨rfl, hB9⟩; have hb9 := hbx.trans (hB9.mono hbx.size)); go_ret2; exact ⟨by rw [hfin.out, hb3.out]; rw [← hxth.out, List.append_nil]; rfl, hT4.trans (hb9.mono hT4.size)⟩
open Tryz
def Pt.mayB (p : Pt) : Bool := qn p.q && (decide (p.id = 0) || ah2 p.id) && p.pr.smallB && decide (p.body.size ≤ 4096)
theorem bgw (p : Pt) : (p.mayB && !decide (p.id = 0)) = p.okB true := by
 unfold Pt.mayB Pt.okB
 by_cases h : p.id = 0
 ·have e : ah2 p.id = false := by rw [h]; rfl
  rw [e, qp h]; simp
 ·rw [qg h]; cases qn p.q <;> cases ah2 p.id <;> cases p.pr.smallB <;> simp
theorem bgx (p : Pt) : (p.mayB && decide (p.id = 0)) = p.okB false := by
 unfold Pt.mayB Pt.okB
 by_cases h : p.id = 0
 ·have e : ah2 p.id = false := by rw [h]; rfl
  rw [e, qp h]; cases qn p.q <;> cases p.pr.smallB <;> simp
 ·rw [qg h]; simp
theorem be9 {P : Prop} (h : P := by
 go_wp2_with (first | (go_at_call 105; (with_reducible refine (bcx _ q hqs.out).mono ?_); rintro e w3 ⟨he, hB3⟩; rw [hqbh.out] at he; subst he; have A3 := A2.pure hB3; have hT3 := hT2.trans (hB3.mono hT2.size); obtain ⟨b0, b1, b2, b3, b4, b5, b6, b7, b8, b9, b10, b11⟩ := A3.a12) | (go_at_call 106; (with_reducible refine (bec _ _).mono ?_); rintro e w4 ⟨he, rfl⟩; rw [hibh.out] at he; subst he))
 go_ret
 exact ⟨by rw [hok.out]; rw [hs.out]; simp, hT3⟩) : P := h
theorem bfa {P : Prop} (h : P := by
 have g4 : decide ((body.size : Int) ≤ 4096) = false := qg (by omega)
 have g5 : ¬ (body.size : Int) ≤ 4096 := by omega
 have hbb := qq (show decide (body.size ≤ 4096) = false from qg hb)
 clear hb
 go_wp2_with (first | (go_at_call 105; (with_reducible refine (bcx _ q hqs.out).mono ?_); rintro e w3 ⟨he, hB3⟩; rw [hqbh.out] at he; subst he; have A3 := A2.pure hB3; have hT3 := hT2.trans (hB3.mono hT2.size); obtain ⟨b0, b1, b2, b3, b4, b5, b6, b7, b8, b9, b10, b11⟩ := A3.a12) | (go_at_call 106; (with_reducible refine (bec _ _).mono ?_); rintro e w4 ⟨he, rfl⟩; rw [hibh.out] at he; subst he))
 go_ret
 exact ⟨by rw [hok.out]; rw [hbb.out]; simp, hT3⟩) : P := h
theorem bfb {P : Prop} (h : P := by
 have g2 : decide ((tx.size : Int) ≤ 8192) = false := qg (by omega)
 have g3 : ¬ (tx.size : Int) ≤ 8192 := by omega
 have hs := qq (show sb = false by rw [← hsbh.out]; unfold Pr.smallB; rw [qg (show ¬ px.bytes.length ≤ 8192 by rw [← hl.out]; exact hz)]; simp)
 clear hz
 exact be9) : P := h
theorem bfc {P : Prop} (h : P := by
 have g1 : (cx == 0) = false := ju.2 hc
 have hs := qq (show sb = false by rw [← hsbh.out]; unfold Pr.smallB; rw [qg (by rw [hcxh.out]; exact hc)]; rfl)
 clear hc
 exact be9) : P := h
theorem bep (t : PtT) (P : Nat → Prop) (w : World) (N : Rd P w t.pr.app) (hqs : (t.q.size : Int) < 4611686018427387904) : Calls prog 107 #[t.arg] w fun e w' => e = .returned (.bool t.p.mayB) ∧ Below w.heap.size w w' := by
 obtain ⟨q, id, ⟨key, G, red, mid, uv⟩, body⟩ := t
 have N : Rd _ _ uv := N
 obtain ⟨K, M, us, I, H, J, F, A, E, rfl, -⟩ := N.open
 rw [PtT.arg_mk]
 have hqs := qq (show (q.size : Int) < 4611686018427387904 from hqs)
 have Z := (qz w.heap.size w).alloc (qj _) (.cells #[.string q, .int .u64 id, .string key, .bool G, .bool red, .string mid, .int .u8 K, .int .u64 M, .string us, .slice I A.length H, .slice J E.length F, .string body] 64)
 have A1 := Blk.new w [.string q, .int .u64 id, .string key, .bool G, .bool red, .string mid, .int .u8 K, .int .u64 M, .string us, .slice I A.length H, .slice J E.length F, .string body] 64
 have R1 := N.pure Z
 have O := bgf (PT.mk key G red mid (VT.mk K M us (.slice I A.length H) (.slice J E.length F) A E)) P _ R1
 obtain ⟨px, ab⟩ := qx ((PT.mk key G red mid (VT.mk K M us (.slice I A.length H) (.slice J E.length F) A E)).p)
 obtain ⟨cx, aa⟩ := qx px.chk
 obtain ⟨tx, Y⟩ := qx (if cx = 0 then px.text else (⟨#[]⟩ : ByteArray))
 rw [ab, aa, Y, PT.arg_mk] at O
 have ae := qq O
 obtain ⟨qb, X⟩ := qx (qn q)
 obtain ⟨ib, U⟩ := qx (ah2 id)
 obtain ⟨sb, W⟩ := qx px.smallB
 have hok := qq (show (PtT.mk q id (PT.mk key G red mid (VT.mk K M us (.slice I A.length H) (.slice J E.length F) A E)) body).p.mayB = (qb && (decide (id = 0) || ib) && sb && decide (body.size ≤ 4096)) by rw [← X, ← U, ← W, ← ab]; rfl)
 have hqbh := qq X; have hibh := qq U
 have ac := qq Y; have hcxh := qq aa; have hsbh := qq W
 clear O ab aa Y X U W
 obtain ⟨a0, a1, a2, a3, a4, a5, a6, a7, a8, a9, a10, a11⟩ := A1.a12
 go_enter func107, ntmps107
 go_upto_region 2 with (go_at_call 152; (with_reducible refine (ae.out).mono ?_); rintro e w2 ⟨rfl, ad⟩; have A2 := A1.pure ad; have hT2 := Z.trans (ad.mono Z.size))
 clear a0 a1 a2 a3 a4 a5 a6 a7 a8 a9 a10 a11
 obtain ⟨a0, a1, a2, a3, a4, a5, a6, a7, a8, a9, a10, a11⟩ := A2.a12
 cases qb
 ·skip
  go_wp2_with (first | (go_at_call 105; (with_reducible refine (bcx _ q hqs.out).mono ?_); rintro e w3 ⟨he, hB3⟩; rw [hqbh.out] at he; subst he; have A3 := A2.pure hB3; have hT3 := hT2.trans (hB3.mono hT2.size); obtain ⟨b0, b1, b2, b3, b4, b5, b6, b7, b8, b9, b10, b11⟩ := A3.a12) | (go_at_call 106; (with_reducible refine (bec _ _).mono ?_); rintro e w4 ⟨he, rfl⟩; rw [hibh.out] at he; subst he)); go_ret; exact ⟨by rw [hok.out]; simp, hT3⟩
 by_cases hz : id = 0
 ·subst hz
  have z := qq (show decide ((0 : Int) = 0) = true from rfl); by_cases hc : cx = 0
  rotate_left 1
  ·exact bfc
  subst hc; have hl := qq (show tx.size = px.bytes.length by have h := ac.out; rw [qw rfl] at h; rw [← h]; rfl); by_cases hz : tx.size ≤ 8192
  rotate_left 1
  ·exact bfb
  have g2 : decide ((tx.size : Int) ≤ 8192) = true := qp (by omega); have g3 : (tx.size : Int) ≤ 8192 := by omega
  have hs := qq (show sb = true by rw [← hsbh.out]; unfold Pr.smallB; rw [qp hcxh.out, qp (show px.bytes.length ≤ 8192 by rw [← hl.out]; exact hz)]; rfl); clear hz; by_cases hb : body.size ≤ 4096
  ·have g4 : decide ((body.size : Int) ≤ 4096) = true := qp (by omega)
   have g5 : (body.size : Int) ≤ 4096 := by omega
   have hbb := qq (show decide (body.size ≤ 4096) = true from qp hb); clear hb; go_wp2_with (first | (go_at_call 105; (with_reducible refine (bcx _ q hqs.out).mono ?_); rintro e w3 ⟨he, hB3⟩; rw [hqbh.out] at he; subst he; have A3 := A2.pure hB3; have hT3 := hT2.trans (hB3.mono hT2.size); obtain ⟨b0, b1, b2, b3, b4, b5, b6, b7, b8, b9, b10, b11⟩ := A3.a12) | (go_at_call 106; (with_reducible refine (bec _ _).mono ?_); rintro e w4 ⟨he, rfl⟩; rw [hibh.out] at he; subst he)); go_ret; exact ⟨by rw [hok.out]; rw [hs.out, hbb.out]; simp, hT3⟩
  ·exact bfa
 have z1 : (id == 0) = false := ju.2 hz
 have z := qq (show decide (id = 0) = false from qg hz)
 cases ib
 ·skip
  go_wp2_with (first | (go_at_call 105; (with_reducible refine (bcx _ q hqs.out).mono ?_); rintro e w3 ⟨he, hB3⟩; rw [hqbh.out] at he; subst he; have A3 := A2.pure hB3; have hT3 := hT2.trans (hB3.mono hT2.size); obtain ⟨b0, b1, b2, b3, b4, b5, b6, b7, b8, b9, b10, b11⟩ := A3.a12) | (go_at_call 106; (with_reducible refine (bec _ _).mono ?_); rintro e w4 ⟨he, rfl⟩; rw [hibh.out] at he; subst he)); go_ret; exact ⟨by rw [hok.out]; rw [z.out]; simp, hT3⟩
 by_cases hc : cx = 0
 rotate_left 1
 ·exact bfc
 subst hc
 have hl := qq (show tx.size = px.bytes.length by have h := ac.out; rw [qw rfl] at h; rw [← h]; rfl)
 by_cases hz : tx.size ≤ 8192
 rotate_left 1
 ·exact bfb
 have g2 : decide ((tx.size : Int) ≤ 8192) = true := qp (by omega)
 have g3 : (tx.size : Int) ≤ 8192 := by omega
 have hs := qq (show sb = true by rw [← hsbh.out]; unfold Pr.smallB; rw [qp hcxh.out, qp (show px.bytes.length ≤ 8192 by rw [← hl.out]; exact hz)]; rfl)
 clear hz
 by_cases hb : body.size ≤ 4096
 ·have g4 : decide ((body.size : Int) ≤ 4096) = true := qp (by omega)
  have g5 : (body.size : Int) ≤ 4096 := by omega
  have hbb := qq (show decide (body.size ≤ 4096) = true from qp hb); clear hb; go_wp2_with (first | (go_at_call 105; (with_reducible refine (bcx _ q hqs.out).mono ?_); rintro e w3 ⟨he, hB3⟩; rw [hqbh.out] at he; subst he; have A3 := A2.pure hB3; have hT3 := hT2.trans (hB3.mono hT2.size); obtain ⟨b0, b1, b2, b3, b4, b5, b6, b7, b8, b9, b10, b11⟩ := A3.a12) | (go_at_call 106; (with_reducible refine (bec _ _).mono ?_); rintro e w4 ⟨he, rfl⟩; rw [hibh.out] at he; subst he)); go_ret; exact ⟨by rw [hok.out]; rw [hs.out, hbb.out, z.out]; simp, hT3⟩
 ·exact bfa
def he1 : En := ⟨1, ⟨#[113]⟩, 9, (0, ⟨#[]⟩, ⟨#[]⟩), [], []⟩
def he2 : En := ⟨6, ⟨#[]⟩, 0, (7, ⟨#[97]⟩, ⟨#[]⟩), [], []⟩
end Go.Proofs.YtgnaifhmcllnlaaGreatDoor
