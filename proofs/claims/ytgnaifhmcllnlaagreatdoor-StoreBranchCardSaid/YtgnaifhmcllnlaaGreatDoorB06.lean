/- Entries: Put, the program's. Conditions: utf8's tables are laid. Written by gen_enF.py. (Texts joined.) -/
import Derived.Test.YtgnaifhmcllnlaaGreatDoorB05
set_option maxRecDepth 100000
set_option maxHeartbeats 12800000
set_option linter.unusedSimpArgs false
set_option linter.unusedVariables false
namespace Go.Proofs.YtgnaifhmcllnlaaGreatDoor
open Go.RowKit Tryz
theorem awt {f : Int → List UInt8 → Option (V × Int × List UInt8)} {m : Bool} {q : Nat} {left : Int} {b : List UInt8} {ks : List ByteArray} {l : List V} {z : List ByteArray × List V × Int × List UInt8} (h : asa ks l (abk f m (q + 1) left b) = some z) :
 ∃ s b' x l1 b2, (if m then gT 1 255 b = some (s, b') else b = b') ∧ f left b' = some (x, l1, b2) ∧ asa (if m then ks ++ [s] else ks) (l ++ [x]) (abk f m q l1 b2) = some z := by
 cases hz : abk f m (q + 1) left b with
 | none => rw [hz] at h; cases h
 | some y =>
  unfold abk at hz; obtain ⟨⟨s, b'⟩, h1, h2⟩ := aah hz; obtain ⟨⟨x, l1, b2⟩, h3, -⟩ := aah h2; refine ⟨s, b', x, l1, b2, ?_, h3, ?_⟩
  ·cases m
   ·simp only [Bool.false_eq_true, if_false, jy, jm] at h1 ⊢; exact h1.2
   ·simpa using h1
  ·cases m
   ·simp only [Bool.false_eq_true, if_false, jy, jm] at h1 ⊢
    obtain ⟨-, rfl⟩ := h1; rw [← aq5 h3]; exact h
   ·simp only [if_true] at h1 ⊢
    rw [← av4 h1 h3]; exact h
theorem aer {P : Prop} (h : P := by
 have r0 := hO3.cell aak L.length (by simp) 0 _ (by rw [List.getElem_append_right (qj _)]; simp [ac6]; rfl); have r1 := hO3.cell aak L.length (by simp) 1 _ (by rw [List.getElem_append_right (qj _)]; simp [ac6]; rfl); have r2 := hO3.cell aak L.length (by simp) 2 _ (by rw [List.getElem_append_right (qj _)]; simp [ac6]; rfl); have r3 := hO3.cell aak L.length (by simp) 3 _ (by rw [List.getElem_append_right (qj _)]; simp [ac6]; rfl); have r4 := hO3.cell aak L.length (by simp) 4 _ (by rw [List.getElem_append_right (qj _)]; simp [ac6]; rfl); have rr0 := hO4.cell aak L.length (by simp) 0 _ (by rw [List.getElem_append_right (qj _)]; simp [ac6]; rfl); have rr1 := hO4.cell aak L.length (by simp) 1 _ (by rw [List.getElem_append_right (qj _)]; simp [ac6]; rfl); have rr2 := hO4.cell aak L.length (by simp) 2 _ (by rw [List.getElem_append_right (qj _)]; simp [ac6]; rfl); have rr3 := hO4.cell aak L.length (by simp) 3 _ (by rw [List.getElem_append_right (qj _)]; simp [ac6]; rfl); have rr4 := hO4.cell aak L.length (by simp) 4 _ (by rw [List.getElem_append_right (qj _)]; simp [ac6]; rfl)
 rw [Nat.add_zero] at r0 rr0
 have z0 := hO3.frozen (L.length * 5); have z1 := hO3.frozen (L.length * 5 + 1); have z2 := hO3.frozen (L.length * 5 + 2); have z3 := hO3.frozen (L.length * 5 + 3); have z4 := hO3.frozen (L.length * 5 + 4); have zz0 := hO4.frozen (L.length * 5); have zz1 := hO4.frozen (L.length * 5 + 1); have zz2 := hO4.frozen (L.length * 5 + 2); have zz3 := hO4.frozen (L.length * 5 + 3); have zz4 := hO4.frozen (L.length * 5 + 4)
 have my0 := hx3.at 4 rfl; have mz0 := hx3.frozen 4
 have hl1x : (L.length : Int) < (L.length : Int) + 1 := by omega
 have my := hx4.at 4 rfl; have mz := hx4.frozen 4
 simp only [VT.k, VT.n, VT.s, VT.kv, VT.lv] at my mz
 refine hK.out _ _ trivial (fun zg => ?_)
 clear hK K
 (try simp only [Act.put, lsT, lsZ, lsS])
 refine tkH 11 zg ?_
 refine tkH 13 zg ?_
 refine tkH 14 zg ?_
 refine wpAnyH_ready (rs := [12, 15]) (by kernel_rfl) (by simp) ?_
 refine (AllReadyH.cons rfl (fun K hK => ?_) (AllReadyH.cons rfl (fun K hK => ?_) AllReadyH.nil))
 ·go_simp
  refine hK.out _ _ trivial (fun zg => ?_); clear hK K; (try simp only [Act.put, lsT, lsZ, lsS]); refine aai 15 rfl (fun K hK => ?_); go_simp; refine hK.out _ _ trivial (fun zg => ?_); clear hK K; (try simp only [Act.put, lsT, lsZ, lsS]); refine wpAnyH_done (by kernel_rfl) ?_ _; go_wp2; go_roundw
  case rel => exact ⟨j + 1, _, _, _, _, le3, b2', by omega, by go_num, qq hM5, qq ⟨by have := hlen.out.1; simp; omega, by have := hkl2.out; omega⟩, hl0', hl1', hlb, qq (by rw [List.map_append, ← hT2.out, ← htvh.out]; rfl)⟩
  case measure => simp [intOf]; omega
 ·go_simp
  refine hK.out _ _ trivial (fun zg => ?_); clear hK K; (try simp only [Act.put, lsT, lsZ, lsS]); refine aai 12 rfl (fun K hK => ?_); go_simp; refine hK.out _ _ trivial (fun zg => ?_); clear hK K; (try simp only [Act.put, lsT, lsZ, lsS]); refine wpAnyH_done (by kernel_rfl) ?_ _; go_wp2; go_roundw
  case rel => exact ⟨j + 1, _, _, _, _, le3, b2', by omega, by go_num, qq hM6, qq ⟨by have := hlen.out.1; simp; omega, by have := hkl2.out; omega⟩, hl0', hl1', hlb, qq (by rw [List.map_append, ← hT2.out, ← htvh.out]; rfl)⟩
  case measure => simp [intOf]; omega) : P := h
theorem aho {P : Prop} (h : P := by
 refine hK.out _ _ trivial (fun zg => ?_)
 clear hK K
 (try simp only [Act.put, lsT, lsZ, lsS])
 refine aai 11 rfl (fun K hK => ?_)
 refine abe rfl (af6 (base := w.heap.size) rfl (.tmp 46) (.tmp 52) 53 9 rfl am3 ac7 ala _ ks rfl hM2.ko w1.heap.size 1 s rfl (fun j u hu => (bs.cell j).trans hu) (by have := hkl.out; omega) (by have := hkl.out; unfold maxLen; omega) (jk hM1.up.size (by simp)) ?_)
 intro g cap w3 hO3 hgr3 hf3
 refine ⟨rfl, ?_⟩
 obtain ⟨hx3, hM3⟩ := hM2.key hO3 hgr3 hf3
 have my := hx3.at 3 rfl; have mz := hx3.frozen 3
 refine hK.out _ _ trivial (fun zg => ?_)
 clear hK K
 (try simp only [Act.put, lsT, lsZ, lsS])
 refine tkH 12 zg ?_
 refine tkH 13 zg ?_
 refine aai 14 rfl (fun K hK => ?_)
 go_simp
 refine hK.out _ _ trivial (fun zg => ?_)
 clear hK K
 (try simp only [Act.put, lsT, lsZ, lsS])
 refine wpAnyH_done (by kernel_rfl) ?_ _
 go_wp2_with fail
 go_meet
 exact ⟨_, hM3⟩) : P := h
theorem ajq {P : Prop} (h : P := by
 refine aai 7 rfl (fun K hK => ?_)
 go_simp
 go_at_call 200
 refine (hrd.out _ hM1.pr).mono ?_
 rintro e w1 ⟨t, he, htv, htR, p1, hu1⟩
 have hM2 := hM1.moved p1 hu1 (fun i e => e)
 have ht1 := hM1.tree htR
 obtain ⟨tk, tn, ts, ka, kc, la, lc, tks, tl, rfl, -, -, -, -⟩ := htR.open
 rw [VT.arg_mk] at he
 subst he
 have htvh := qq htv
 clear htv
 have mx2 := hM2.x.at 4 rfl; have mq2 := hM2.pr.q.at 0 rfl
 refine hK.out _ _ trivial (fun zg => ?_)
 clear hK K
 (try simp only [Act.put, lsT, lsZ, lsS])
 refine aai 10 rfl (fun K hK => ?_)
 have bs1 := bs.upd hu1 (fun e => by have h1 := hM0.lt; have h2 := hM0.xl; have h3 := hM0.up.size; have h4 := hM0.pr.vq; unfold Two at e; omega)
 refine abe rfl (aaq (base := w.heap.size) rfl (.tmp 59) (.tmp 65) 54 56 rfl aej aak _ L rfl hM2.lo _ 1 VT.zero (by simp [ac6, VT.zero, VT.k, VT.n, VT.s, VT.kv, VT.lv, Value.oneCell']) rfl (fun j u hu => (bs1.cell j).trans hu) (by have := hLl.out; omega) (by have := hLl.out; unfold maxLen; omega) hM2.up.size ?_)
 intro g cap w3 hO3 hgr3 hf3
 refine ⟨rfl, ?_⟩
 obtain ⟨hx3, hx4, hM5⟩ := hM2.elem hO3 hgr3 hf3 ht1
 obtain ⟨hO4, hM6⟩ := hM2.elem2 hO3 hgr3 hf3 ht1
 exact aer) : P := h
theorem ajr {P : Prop} (h : P := by
 refine aai 9 rfl (fun K hK => ?_)
 go_simp
 have hM2 := hM1.alloc (.cells #[.int .u8 0, .int .u64 0, .string ⟨#[]⟩, .slice none 0 0, .slice none 0 0] 56)
 have bs := Blk.new w1 [.int .u8 0, .int .u64 0, .string ⟨#[]⟩, .slice none 0 0, .slice none 0 0] 56
 have ht2 := ht1.pure ((qz w1.heap.size w1).alloc (qj _) (.cells #[.int .u8 0, .int .u64 0, .string ⟨#[]⟩, .slice none 0 0, .slice none 0 0] 56))
 have mx2 := hM2.x.at 4 rfl; have mq2 := hM2.pr.q.at 0 rfl
 refine hK.out _ _ trivial (fun zg => ?_)
 clear hK K
 (try simp only [Act.put, lsT, lsZ, lsS])
 refine aai 10 rfl (fun K hK => ?_)
 refine abe rfl (aaq (base := w.heap.size) rfl (.tmp 59) (.tmp 65) 54 56 rfl aej aak _ L rfl hM2.lo _ 1 VT.zero (by simp [ac6, VT.zero, VT.k, VT.n, VT.s, VT.kv, VT.lv, Value.oneCell']) rfl (fun j u hu => (bs.cell j).trans hu) (by have := hLl.out; omega) (by have := hLl.out; unfold maxLen; omega) hM2.up.size ?_)
 intro g cap w3 hO3 hgr3 hf3
 refine ⟨rfl, ?_⟩
 obtain ⟨hx3, hx4, hM5⟩ := hM2.elem hO3 hgr3 hf3 ht2
 obtain ⟨hO4, hM6⟩ := hM2.elem2 hO3 hgr3 hf3 ht2
 exact aer) : P := h
theorem ajs {P : Prop} (h : P := by
 go_simp
 refine hK.out _ _ trivial (fun zg => ?_)
 clear hK K
 (try simp only [Act.put, lsT, lsZ, lsS])
 refine aai 9 rfl (fun K hK => ?_)
 go_simp
 go_at_call 197
 refine (htx.out _ hM0.pr).mono ?_
 rintro e w1 ⟨rfl, p1, hu1⟩
 have hM1 := hM0.moved p1 hu1 (fun i e => Or.inr e)
 have mx1 := hM1.x.at 3 rfl; have mq1 := hM1.pr.q.at 0 rfl
 refine hK.out _ _ trivial (fun zg => ?_)
 clear hK K
 (try simp only [Act.put, lsT, lsZ, lsS])
 refine aai 10 rfl (fun K hK => ?_)
 go_simp
 have hM2 := hM1.alloc (.cells #[.string s] 9)
 have bs := Blk.new w1 [.string s] 9
 have mx2 := hM2.x.at 3 rfl; have mq2 := hM2.pr.q.at 0 rfl
 exact aho) : P := h
theorem at2 (d : Nat) (hR : apb d) : at1 d := by
 intro w qb rb vb xb left dp b k ks0 l0 le2 r0 h hqx hx hk hd hd5 hl0 hl1 hL hz
 unfold rdM at hz
 obtain ⟨⟨size, b2⟩, hg1', hz⟩ := aah hz
 dsimp only at hz
 obtain ⟨⟨n, b3⟩, hg2', hz⟩ := aah hz
 dsimp only at hz
 by_cases hc : size ≤ b2.length ∧ n < 200
 rotate_left 1
 ·rw [qk hc] at hz; cases hz
 rw [qw hc] at hz
 obtain ⟨⟨ks1, l1, le1, b4⟩, hT0, hz⟩ := aah hz
 dsimp only at hz
 by_cases hse : b2.length - b4.length = size
 rotate_left 1
 ·rw [qk hse] at hz; cases hz
 rw [qw hse] at hz
 simp only [jy, jm] at hz
 obtain ⟨rfl, rfl, rfl, rfl⟩ := hz
 have hdp0 : 0 ≤ dp := by omega
 have hdp1 : dp ≤ 6 := by omega
 have c0 := h.q.at 0 rfl
 have ut : ∀ a b : World, Upd (acu vb) a b → Upd (aop qb vb xb) a b := fun a b h => h.mono (fun k hk _ => Or.inr (Or.inl hk))
 have uth := qq ut
 clear ut
 obtain ⟨hs32, hL2', -⟩ := aks hg1'
 have hL2 : Big b2.length := hL.mono hL2'
 have wz : IntKind.u64.wrap (b2.length : Int) = (b2.length : Int) := wrap_u64 _ (by omega) (by have := hL2.le; omega)
 have hg1 := qq hg1'
 obtain ⟨hn32, hL3', -⟩ := aks hg2'
 have hL3 : Big b3.length := hL2.mono hL3'
 have hg2 := qq hg2'
 obtain ⟨hsz, hn2⟩ := hc
 have hn3 : decide ((n : Int) < 200) = true := qp (by omega)
 have hL32 := qq hL3'
 have hxl := hx.lt
 have hwp : IntKind.i64.wrap (dp + 1) = dp + 1 := wrap_i64 _ (by omega) (by omega)
 have hRh := qq hR; have hT0h := qq hT0; have hseh := qq hse; have hkh := qq hk
 clear hg1' hg2' hR hL3' hL2' hs32 hT0 hse hk
 go_enter func211, ntmps211
 go_wp2_with (first | (go_at_call 169; (with_reducible refine (agy _ qb rb vb left b 4 size 4 b2 h rfl (by unfold Wd; omega) hg1.out hL).mono ?_); rintro e w1 ⟨rfl, p1, hu1⟩; have e1 := p1.q.at 0 rfl) | (go_at_call 169; (with_reducible refine (agy _ qb rb vb left b2 4 n 4 b3 p1 rfl (by unfold Wd; omega) hg2.out hL2).mono ?_); rintro e w2 ⟨rfl, p2, hu2⟩; have e2 := p2.q.at 0 rfl) | (go_at_call 171; (with_reducible refine (ba9 _ qb rb vb left b2 false p1).mono ?_); rintro e _ ⟨rfl, rfl⟩) | (go_at_call 201; (with_reducible refine (aih _ qb rb vb left b3 p2).mono ?_); rintro e _ ⟨rfl, rfl⟩))
 have hM2 := qq (MSt.start (w0 := w) p2 ((hx.upd hu1 (fun e => by have := h.vq; unfold acu at e; omega)).upd hu2 (fun e => by have := h.vq; unfold acu at e; omega)) ((uth.out _ _ hu1).trans (uth.out _ _ hu2) (fun _ h _ => h)) hqx hxl)
 clear hx h p1 p2 hu1 hu2 e1 e2 c0
 go_loopw [35] (fun s35 wr => ∃ (j : Nat) (kv lv : Value) (ks : List ByteArray) (L : List VT) (lj : Int) (bj : List UInt8), j ≤ n ∧ s35 = .int .u64 j ∧ Hid (MSt w qb rb vb xb k wr lj bj false kv lv ks L) ∧ Hid (L.length = j ∧ ks.length ≤ j) ∧ 0 ≤ lj ∧ lj ≤ 200 ∧ Hid (bj.length ≤ b3.length) ∧ Hid (asa ks (L.map VT.v) (abk (rdP d) (k == 168) (n - j) lj bj) = some (ks1, l1, le1, b4))) (fun s35 _ => n - (intOf s35).toNat)
 case atStart => exact ⟨0, _, _, [], [], left, b3, by omega, rfl, hM2, qq ⟨rfl, qj _⟩, hl0, hl1, qq (qj _), qq (by rw [List.map_nil, av3]; exact hT0h.out)⟩
 case round =>
  clear hM2; obtain ⟨j, kv, lv, ks, L, lj, bj, hj, rfl, hMh, hlen, hl0j, hl1j, hbj, hT⟩ := hrel; have hM := hMh.out; obtain ⟨ka, kc, rfl⟩ := aap hM.ko; obtain ⟨la, lc, rfl⟩ := aap hM.lo; have hLj : Big bj.length := hL3.mono hbj.out; have x0 := hM.x.at 0 rfl; by_cases hlt : j < n
  ·have h1 : (j : Int) < (n : Int) := by omega
   have hkl := qq (show ks.length < 200 by have := hlen.out.2; omega); have hLl := qq (show L.length < 200 by have := hlen.out.1; omega); have hnj : n - j = (n - (j + 1)) + 1 := by omega
   have hT' := hT.out; rw [hnj] at hT'; obtain ⟨s, b', x, le3, b2', hgk, hxx, hT2'⟩ := awt hT'; obtain ⟨ksn, hksn⟩ := zz (if (k == 168) = true then ks ++ [s] else ks); rw [hksn] at hT2'
   have hbl' : b'.length ≤ bj.length := by
    cases hm : (k == 168)
    ·rw [hm] at hgk; simp at hgk; rw [hgk]; exact qj _
    ·rw [hm] at hgk; exact bco hgk
   have hLb : Big b'.length := hLj.mono hbl'; have hkl2 := qq (show ksn.length ≤ j + 1 by rw [← hksn]; have := hlen.out.2; split <;> simp <;> omega); have hll := ap4 _ _ _ _ _ _ hxx; have hlb := qq (show b2'.length ≤ b3.length by have h1 := asw hxx; have h2 := hbj.out; omega); have hl1' : le3 ≤ 200 := by omega
   have hl0' : 0 ≤ le3 := hll.1; have hrd := qq (fun (u : World) (p : PR u qb rb vb lj b' false) => hRh.out u qb rb vb lj (dp + 1) b' x le3 b2' p (by omega) (by omega) hl0j hl1j hLb hxx); have hT2 := qq hT2'; have hgkh := qq hgk; have hksh := qq hksn; clear hT' hT2' hgk hksn hxx hll hbl' hnj hT; go_upto_if 41 with fail; go_cut [] from 42 to 55 (fun wc => av6 w qb rb vb xb k lj b' false (.slice la L.length lc) ksn L wc)
   case first =>
    have hg := hgkh.out; have hks := hksh.out; rcases hkh.out with rfl | rfl
    ·have hg : gT 1 255 bj = some (s, b') := hg
     have hks : ks ++ [s] = ksn := hks; subst hks; have htx := qq (fun (u : World) (p : PR u qb rb vb lj bj false) => ai4 u qb rb vb lj bj 1 255 1 255 s b' p rfl rfl (by omega) (by omega) hg hLj); clear hg; go_upto_region 7 with fail; have hM0 := hM.drew; have mx0 := hM.x.at 3 rfl; have mq0 := hM.pr.q.at 0 rfl; have nx0 := hM0.x.at 3 rfl; have nq0 := hM0.pr.q.at 0 rfl; refine wp_region_held_drew (S := fun _ => True) (by kernel_rfl) trivial (fun zg => ?_); refine tkH 0 zg ?_; refine tkH 1 zg ?_; refine tkH 2 zg ?_; refine tkH 3 zg ?_; refine tkH 5 zg ?_; refine tkH 6 zg ?_; refine tkH 7 zg ?_; refine wpAnyH_ready (rs := [4, 8]) (by kernel_rfl) (by simp) ?_; refine (AllReadyH.cons rfl (fun K hK => ?_) (AllReadyH.cons rfl (fun K hK => ?_) AllReadyH.nil))
     ·go_simp
      refine hK.out _ _ trivial (fun zg => ?_); clear hK K; (try simp only [Act.put, lsT, lsZ, lsS]); refine aai 8 rfl (fun K hK => ?_); exact ajs
     ·go_simp
      refine hK.out _ _ trivial (fun zg => ?_); clear hK K; (try simp only [Act.put, lsT, lsZ, lsS]); refine wpAnyH_ready (rs := [4, 9]) (by kernel_rfl) (by simp) ?_; refine (AllReadyH.cons rfl (fun K hK => ?_) (AllReadyH.cons rfl (fun K hK => ?_) AllReadyH.nil))
      ·exact ajs
      ·go_simp
       go_at_call 197; refine (htx.out _ hM0.pr).mono ?_; rintro e w1 ⟨rfl, p1, hu1⟩; have hM1 := hM0.moved p1 hu1 (fun i e => Or.inr e); have mx1 := hM1.x.at 3 rfl; have mq1 := hM1.pr.q.at 0 rfl; refine hK.out _ _ trivial (fun zg => ?_); clear hK K; (try simp only [Act.put, lsT, lsZ, lsS]); refine wpAnyH_ready (rs := [4, 10]) (by kernel_rfl) (by simp) ?_; refine (AllReadyH.cons rfl (fun K hK => ?_) (AllReadyH.cons rfl (fun K hK => ?_) AllReadyH.nil))
       ·go_simp
        refine hK.out _ _ trivial (fun zg => ?_); clear hK K; (try simp only [Act.put, lsT, lsZ, lsS]); refine aai 10 rfl (fun K hK => ?_); go_simp; have hM2 := hM1.alloc (.cells #[.string s] 9); have bs := Blk.new w1 [.string s] 9; have mx2 := hM2.x.at 3 rfl; have mq2 := hM2.pr.q.at 0 rfl; exact aho
       ·go_simp
        have hM2 := hM1.alloc (.cells #[.string s] 9); have bs := Blk.new w1 [.string s] 9; have mx2 := hM2.x.at 3 rfl; have mq2 := hM2.pr.q.at 0 rfl; refine hK.out _ _ trivial (fun zg => ?_); clear hK K; (try simp only [Act.put, lsT, lsZ, lsS]); refine aai 4 rfl (fun K hK => ?_); go_simp; exact aho
    ·have hg : bj = b' := hg
     have hks : ks = ksn := hks; subst hg; subst hks; go_wp2_with fail; go_meet; exact ⟨_, hM⟩
   case rest =>
   obtain ⟨kv', hMc⟩ := hcut; clear hM hMh x0; obtain ⟨ka', kc', rfl⟩ := aap hMc.ko; go_upto_region 8 with fail; have hM0 := hMc.drew; have mx0 := hMc.x.at 4 rfl; have mq0 := hMc.pr.q.at 0 rfl; have nx0 := hM0.x.at 4 rfl; have nq0 := hM0.pr.q.at 0 rfl; refine wp_region_held_drew (S := fun _ => True) (by kernel_rfl) trivial (fun zg => ?_); refine tkH 0 zg ?_; refine tkH 1 zg ?_; refine tkH 2 zg ?_; refine tkH 4 zg ?_; refine tkH 5 zg ?_; refine tkH 6 zg ?_; refine wpAnyH_ready (rs := [3, 7, 9]) (by kernel_rfl) (by simp) ?_; refine (AllReadyH.cons rfl (fun K hK => ?_) (AllReadyH.cons rfl (fun K hK => ?_) (AllReadyH.cons rfl (fun K hK => ?_) AllReadyH.nil)))
   ·go_simp
    refine hK.out _ _ trivial (fun zg => ?_); clear hK K; (try simp only [Act.put, lsT, lsZ, lsS]); refine tkH 8 zg ?_; refine wpAnyH_ready (rs := [7, 9]) (by kernel_rfl) (by simp) ?_; refine (AllReadyH.cons rfl (fun K hK => ?_) (AllReadyH.cons rfl (fun K hK => ?_) AllReadyH.nil))
    ·go_simp
     go_at_call 200; refine (hrd.out _ hM0.pr).mono ?_; rintro e w1 ⟨t, he, htv, htR, p1, hu1⟩; have hM1 := hM0.moved p1 hu1 (fun i e => e); have ht1 := hM0.tree htR; obtain ⟨tk, tn, ts, ka, kc, la, lc, tks, tl, rfl, -, -, -, -⟩ := htR.open; rw [VT.arg_mk] at he; subst he; have htvh := qq htv; clear htv; have mx1 := hM1.x.at 4 rfl; have mq1 := hM1.pr.q.at 0 rfl; refine hK.out _ _ trivial (fun zg => ?_); clear hK K; (try simp only [Act.put, lsT, lsZ, lsS]); exact ajr
    ·go_simp
     have hM1 := hM0.alloc (.cells #[.int .u8 0, .int .u64 0, .string ⟨#[]⟩, .slice none 0 0, .slice none 0 0] 56); have bs := Blk.new wc.drew [.int .u8 0, .int .u64 0, .string ⟨#[]⟩, .slice none 0 0, .slice none 0 0] 56; have hMa := hMc.alloc (.cells #[.int .u8 0, .int .u64 0, .string ⟨#[]⟩, .slice none 0 0, .slice none 0 0] 56); have ma := hMa.x.at 4 rfl; have mb := hMa.pr.q.at 0 rfl; have mx1 := hM1.x.at 4 rfl; have mq1 := hM1.pr.q.at 0 rfl; refine hK.out _ _ trivial (fun zg => ?_); clear hK K; (try simp only [Act.put, lsT, lsZ, lsS]); exact ajq
   ·go_simp
    go_at_call 200; refine (hrd.out _ hM0.pr).mono ?_; rintro e w1 ⟨t, he, htv, htR, p1, hu1⟩; have hM1 := hM0.moved p1 hu1 (fun i e => e); have ht1 := hM0.tree htR; obtain ⟨tk, tn, ts, ka, kc, la, lc, tks, tl, rfl, -, -, -, -⟩ := htR.open; rw [VT.arg_mk] at he; subst he; have htvh := qq htv; clear htv; have mx1 := hM1.x.at 4 rfl; have mq1 := hM1.pr.q.at 0 rfl; refine hK.out _ _ trivial (fun zg => ?_); clear hK K; (try simp only [Act.put, lsT, lsZ, lsS]); refine wpAnyH_ready (rs := [3, 9]) (by kernel_rfl) (by simp) ?_; refine (AllReadyH.cons rfl (fun K hK => ?_) (AllReadyH.cons rfl (fun K hK => ?_) AllReadyH.nil))
    ·go_simp
     refine hK.out _ _ trivial (fun zg => ?_); clear hK K; (try simp only [Act.put, lsT, lsZ, lsS]); refine tkH 8 zg ?_; exact ajr
    ·go_simp
     have hM2 := hM1.alloc (.cells #[.int .u8 0, .int .u64 0, .string ⟨#[]⟩, .slice none 0 0, .slice none 0 0] 56); have bs := Blk.new w1 [.int .u8 0, .int .u64 0, .string ⟨#[]⟩, .slice none 0 0, .slice none 0 0] 56; have ht2 := ht1.pure ((qz w1.heap.size w1).alloc (qj _) (.cells #[.int .u8 0, .int .u64 0, .string ⟨#[]⟩, .slice none 0 0, .slice none 0 0] 56)); have mx2 := hM2.x.at 4 rfl; have mq2 := hM2.pr.q.at 0 rfl; refine hK.out _ _ trivial (fun zg => ?_); clear hK K; (try simp only [Act.put, lsT, lsZ, lsS]); refine aai 3 rfl (fun K hK => ?_); go_simp; refine hK.out _ _ trivial (fun zg => ?_); clear hK K; (try simp only [Act.put, lsT, lsZ, lsS]); refine tkH 8 zg ?_; refine aai 10 rfl (fun K hK => ?_); refine abe rfl (aaq (base := w.heap.size) rfl (.tmp 59) (.tmp 65) 54 56 rfl aej aak _ L rfl hM2.lo _ 1 VT.zero (by simp [ac6, VT.zero, VT.k, VT.n, VT.s, VT.kv, VT.lv, Value.oneCell']) rfl (fun j u hu => (bs.cell j).trans hu) (by have := hLl.out; omega) (by have := hLl.out; unfold maxLen; omega) hM2.up.size ?_); intro g cap w3 hO3 hgr3 hf3; refine ⟨rfl, ?_⟩; obtain ⟨hx3, hx4, hM5⟩ := hM2.elem hO3 hgr3 hf3 ht2; obtain ⟨hO4, hM6⟩ := hM2.elem2 hO3 hgr3 hf3 ht2; exact aer
   ·go_simp
    have hM1 := hM0.alloc (.cells #[.int .u8 0, .int .u64 0, .string ⟨#[]⟩, .slice none 0 0, .slice none 0 0] 56); have bs := Blk.new wc.drew [.int .u8 0, .int .u64 0, .string ⟨#[]⟩, .slice none 0 0, .slice none 0 0] 56; have hMa := hMc.alloc (.cells #[.int .u8 0, .int .u64 0, .string ⟨#[]⟩, .slice none 0 0, .slice none 0 0] 56); have ma := hMa.x.at 4 rfl; have mb := hMa.pr.q.at 0 rfl; have mx1 := hM1.x.at 4 rfl; have mq1 := hM1.pr.q.at 0 rfl; refine hK.out _ _ trivial (fun zg => ?_); clear hK K; (try simp only [Act.put, lsT, lsZ, lsS]); refine wpAnyH_ready (rs := [3, 7]) (by kernel_rfl) (by simp) ?_; refine (AllReadyH.cons rfl (fun K hK => ?_) (AllReadyH.cons rfl (fun K hK => ?_) AllReadyH.nil))
    ·go_simp
     refine hK.out _ _ trivial (fun zg => ?_); clear hK K; (try simp only [Act.put, lsT, lsZ, lsS]); refine tkH 8 zg ?_; exact ajq
    ·go_simp
     go_at_call 200; refine (hrd.out _ hM1.pr).mono ?_; rintro e w1 ⟨t, he, htv, htR, p1, hu1⟩; have hM2 := hM1.moved p1 hu1 (fun i e => e); have ht1 := hM1.tree htR; obtain ⟨tk, tn, ts, ka, kc, la, lc, tks, tl, rfl, -, -, -, -⟩ := htR.open; rw [VT.arg_mk] at he; subst he; have htvh := qq htv; clear htv; have mx2 := hM2.x.at 4 rfl; have mq2 := hM2.pr.q.at 0 rfl; refine hK.out _ _ trivial (fun zg => ?_); clear hK K; (try simp only [Act.put, lsT, lsZ, lsS]); refine aai 3 rfl (fun K hK => ?_); go_simp; refine hK.out _ _ trivial (fun zg => ?_); clear hK K; (try simp only [Act.put, lsT, lsZ, lsS]); refine tkH 8 zg ?_; refine aai 10 rfl (fun K hK => ?_); have bs1 := bs.upd hu1 (fun e => by have h1 := hM0.lt; have h2 := hM0.xl; have h3 := hM0.up.size; have h4 := hM0.pr.vq; unfold Two at e; omega); refine abe rfl (aaq (base := w.heap.size) rfl (.tmp 59) (.tmp 65) 54 56 rfl aej aak _ L rfl hM2.lo _ 1 VT.zero (by simp [ac6, VT.zero, VT.k, VT.n, VT.s, VT.kv, VT.lv, Value.oneCell']) rfl (fun j u hu => (bs1.cell j).trans hu) (by have := hLl.out; omega) (by have := hLl.out; unfold maxLen; omega) hM2.up.size ?_); intro g cap w3 hO3 hgr3 hf3; refine ⟨rfl, ?_⟩; obtain ⟨hx3, hx4, hM5⟩ := hM2.elem hO3 hgr3 hf3 ht1; obtain ⟨hO4, hM6⟩ := hM2.elem2 hO3 hgr3 hf3 ht1; exact aer
  ·obtain rfl : j = n := by omega
   have hfin := hT.out; rw [Nat.sub_self, av5] at hfin; simp only [jy, jm] at hfin; obtain ⟨rfl, rfl, rfl, rfl⟩ := hfin; have q0 := hM.pr.q.at 0 rfl; have hb1 := hbj.out; have hb2 := hL32.out; have wy : IntKind.u64.wrap ((b2.length : Int) - (bj.length : Int)) = (b2.length : Int) - (bj.length : Int) := wrap_u64 _ (by omega) (by have := hL2.le; omega); have hpr := qq hM.pr; have hMz := qq hM; have hb2L := qq hL2.le; clear hM hMh hbj hT hT0h hL2 hL3 hLj; have hs1 : ((b2.length : Int) - (bj.length : Int) == (size : Int)) = true := by rw [beq_iff_eq]; have := hseh.out; omega
   have hb3 : (bj.length : Int) ≤ (b2.length : Int) := by omega
   have hb4 : (b2.length : Int) ≤ 70368744177664 := by have := hb2L.out; omega
   go_wp2_with (first | (go_at_call 171; (with_reducible refine (ba9 _ qb rb vb lj bj false hpr.out).mono ?_); rintro e _ ⟨rfl, rfl⟩) | (go_at_call 201; (with_reducible refine (aih _ qb rb vb lj bj hpr.out).mono ?_); rintro e _ ⟨rfl, rfl⟩)); go_end0; have hM := hMz.out; exact ⟨_, _, L, rfl, hM.x, hM.ko, hM.lo, rfl, fun x hx => (hM.rd x hx).weaken (fun i _ hi => hi.1), hM.pr, hM.up⟩
theorem alo : ∀ d, apb d
 | 0 => ano 0 (fun d' h => by omega)
 | d + 1 => ano (d + 1) (fun d' h => by
  obtain rfl : d = d' := by omega
  exact at2 d (alo d))
theorem aed {P : Prop} (h : P := by
 (first | with_reducible exact ⟨k0, k1, k2, k3, k4, k5⟩ | with_reducible exact ⟨l0, l1, l2, l3, l4, l5⟩ | with_reducible exact ⟨m0, m1, m2, m3, m4, m5⟩ | with_reducible exact ⟨o0, o1, o2, o3, o4, o5⟩ | with_reducible exact ⟨aa0, aa1, aa2, aa3, aa4, aa5⟩ | with_reducible exact ⟨ab0, ab1, ab2, ab3, ab4, ab5⟩ | with_reducible exact ⟨ac0, ac1, ac2, ac3, ac4, ac5⟩)) : P := h
theorem awu (w : World) (v : Value) (L : List UInt8) (h : Slc aax 1 w v L) (hL : Big L.length) (hT : Tb w) (x : V) (left : Int) (r : List UInt8) (hx : rdP 6 200 L = some (x, left, r)) (hc : x.chk = 0) :
 Calls prog 172 #[v] w (atc w (some (x, L.length - r.length))) := by
 have hmf : ∀ (fn : Fn) (first cap : Array Value) (w : World), (Instr.makeFunc fn first cap).run prog w = .ok (.func fn first cap) w := fun _ _ _ _ => rfl
 have hB3 : Below w.heap.size w (((w.alloc (.cells #[.int .u8 0, .int .u64 0, .string ⟨#[]⟩, .slice none 0 0, .slice none 0 0] 56)).alloc (.cells #[.int .i64 0] 3)).alloc (.cells #[.int .i64 0] 41)) := (((qz _ _).alloc (qj _) _).alloc (by simp) _).alloc (by simp; omega) _
 have hz3 : w.heap.size + 3 ≤ (((w.alloc (.cells #[.int .u8 0, .int .u64 0, .string ⟨#[]⟩, .slice none 0 0, .slice none 0 0] 56)).alloc (.cells #[.int .i64 0] 3)).alloc (.cells #[.int .i64 0] 41)).heap.size := by simp
 have v3 : Blk (((w.alloc (.cells #[.int .u8 0, .int .u64 0, .string ⟨#[]⟩, .slice none 0 0, .slice none 0 0] 56)).alloc (.cells #[.int .i64 0] 3)).alloc (.cells #[.int .i64 0] 41)) (w.heap.size) [.int .u8 0, .int .u64 0, .string ⟨#[]⟩, .slice none 0 0, .slice none 0 0] := ((Blk.new w [.int .u8 0, .int .u64 0, .string ⟨#[]⟩, .slice none 0 0, .slice none 0 0] 56).alloc (.cells #[.int .i64 0] 3)).alloc (.cells #[.int .i64 0] 41)
 have n3 : Blk (((w.alloc (.cells #[.int .u8 0, .int .u64 0, .string ⟨#[]⟩, .slice none 0 0, .slice none 0 0] 56)).alloc (.cells #[.int .i64 0] 3)).alloc (.cells #[.int .i64 0] 41)) (w.heap.size + 1) [.int .i64 0] := (Blk.newK (w.alloc (.cells #[.int .u8 0, .int .u64 0, .string ⟨#[]⟩, .slice none 0 0, .slice none 0 0] 56)) [.int .i64 0] 3 (w.heap.size + 1) (by simp)).alloc (.cells #[.int .i64 0] 41)
 have e3 : Blk (((w.alloc (.cells #[.int .u8 0, .int .u64 0, .string ⟨#[]⟩, .slice none 0 0, .slice none 0 0] 56)).alloc (.cells #[.int .i64 0] 3)).alloc (.cells #[.int .i64 0] 41)) (w.heap.size + 1 + 1) [.int .i64 0] := Blk.newK ((w.alloc (.cells #[.int .u8 0, .int .u64 0, .string ⟨#[]⟩, .slice none 0 0, .slice none 0 0] 56)).alloc (.cells #[.int .i64 0] 3)) [.int .i64 0] 41 (w.heap.size + 1 + 1) (by simp)
 have hrd := fun (u : World) (qb rb vb : Nat) (p : PR u qb rb vb 200 L false) => alo 6 u qb rb vb 200 1 L x left r p (by omega) (by omega) (by omega) (by omega) hL hx
 obtain ⟨va, vc, rfl, -⟩ := h.len
 have hrdh := qq hrd
 have hrl : r.length ≤ L.length := asw hx
 have hTh := qq hT
 have hLle := qq hL.le
 have hcz := qq hc
 clear hrd hx hT hc
 have hwn : IntKind.i64.wrap ((L.length : Int) - (r.length : Int)) = (L.length : Int) - (r.length : Int) := wrap_i64 _ (by omega) (by have := hLle.out; omega)
 go_enter_defers func172, ntmps172
 go_wp2_with (first | (go_at_call 167; (refine (am2 _ _ L (h.pure hB3) hL).mono ?_); rintro e w4 ⟨rb, vb, rfl, hp4, hs4, hvb, hrb, hB4⟩; have hb5 := (qz w4.heap.size w4).alloc (qj _) (.cells #[.pointer (some ⟨rb, 0, none⟩), .int .i64 200] 236); have p5 : PR (w4.alloc (.cells #[.pointer (some ⟨rb, 0, none⟩), .int .i64 200] 236)) w4.heap.size rb vb 200 L false := ⟨Blk.new w4 [.pointer (some ⟨rb, 0, none⟩), .int .i64 200] 236, hp4.pure hb5, hs4.pure hb5, hp4.1.lt⟩; have v5 := (v3.pure hB4).pure hb5; have n5 := (n3.pure hB4).pure hb5; have e5 := (e3.pure hB4).pure hb5; have hT5 := (hB3.trans (hB4.mono hB3.size)).trans (hb5.mono (hB3.trans (hB4.mono hB3.size)).size); have hA4 : w.heap.size + 3 ≤ w4.heap.size := jk hz3 hB4.size; have hvb2 : w.heap.size + 3 ≤ vb := jk hz3 hvb; have hvr : vb < rb := hp4.2) | (go_at_call 200; refine (hrdh.out _ _ _ _ p5).mono ?_; rintro e w6 ⟨t, he, htv, htR, p6, hu6⟩; have v6 := v5.upd hu6 (fun e => by unfold Two at e; omega); have n6 := n5.upd hu6 (fun e => by unfold Two at e; omega); have e6 := e5.upd hu6 (fun e => by unfold Two at e; omega); have hT6 := ag0 hT5 hu6 (fun k hk => by unfold Two at hk; omega) hT5.size; obtain ⟨tk, tn, ts, ka, kc, la, lc, tks, tl, rfl, -, -, -, -⟩ := htR.open; rw [VT.arg_mk] at he; subst he; have u7 := Upd.at5 w6 w.heap.size (.int .u8 tk) (.int .u64 tn) (.string ts) (.slice ka tks.length kc) (.slice la tl.length lc); have v7 := v6.fresh5 (.int .u8 tk) (.int .u64 tn) (.string ts) (.slice ka tks.length kc) (.slice la tl.length lc); have n7 := n6.upd u7 (fun e => by omega); have e7 := e6.upd u7 (fun e => by omega); have q7 := p6.pl.upd u7 (fun e => by omega) (fun e => by omega) (fun e => by omega); have hT7 := ag0 hT6 u7 (fun k hk => by omega) hT6.size; have hR7 := htR.upd u7 (fun i hi e => by have h1 := hb5.size; omega); have hck := fun (u : World) (hR : Rd (fun i => (w4.alloc (.cells #[.pointer (some ⟨rb, 0, none⟩), .int .i64 200] 236)).heap.size ≤ i) u (.mk tk tn ts (.slice ka tks.length kc) (.slice la tl.length lc) tks tl)) (hT : Tb u) => ajb _ _ u hR hT; simp only [VT.arg_mk, htv, hcz.out] at hck; have hckh := qq hck; clear hck; have htvh := qq htv; clear htv; obtain ⟨a0, a1, a2, a3, a4⟩ := v6.a5; obtain ⟨z0, z1, z2, z3, z4⟩ := v6.f5; obtain ⟨b0, b1, b2, b3, b4⟩ := v7.a5) | (go_at_call 190; refine (hckh.out _ hR7 (hTh.out.pure hT7)).mono ?_; rintro e w8 ⟨rfl, hB8⟩; have v8 := v7.pure hB8; have n8 := n7.pure hB8; have e8 := e7.pure hB8; have q8 := q7.pure hB8; have hT8 := hT7.trans (hB8.mono hT7.size); have hR8 := hR7.pure hB8) | (go_at_call 201; (with_reducible refine (awb _ _ _ _ _ _ q8).mono ?_); rintro e _ ⟨rfl, rfl⟩))
 have vd := v8.drew; have nd := n8.drew; have ed := e8.drew; have qd := q8.q.drew; have hTd := aad hT8
 obtain ⟨f0, f1, f2, f3, f4⟩ := vd.f5; have f5 := nd.frozen 0; have f6 := ed.frozen 0; have f7 := nd.at 0 rfl; have f8 := ed.at 0 rfl
 obtain ⟨k0, k1, k2, k3, k4⟩ := vd.a5; have k5 := qd.at 0 rfl
 have u9 := Upd.at5 w8.drew w.heap.size (.int .u8 tk) (.int .u64 tn) (.string ts) (.slice ka tks.length kc) (.slice la tl.length lc)
 have v9 := vd.fresh5 (.int .u8 tk) (.int .u64 tn) (.string ts) (.slice ka tks.length kc) (.slice la tl.length lc); have n9 := nd.upd u9 (fun e => by omega); have e9 := ed.upd u9 (fun e => by omega); have q9 := qd.upd u9 (fun e => by omega)
 have v10 := v9.other ⟨w.heap.size + 1, 0, none⟩ (.int .i64 ((L.length : Int) - (r.length : Int))) (by simp only; omega); have n10 := n9.set 0 (.int .i64 ((L.length : Int) - (r.length : Int))); have e10 := e9.other ⟨w.heap.size + 1, 0, none⟩ (.int .i64 ((L.length : Int) - (r.length : Int))) (by simp only; omega); have q10 := q9.other ⟨w.heap.size + 1, 0, none⟩ (.int .i64 ((L.length : Int) - (r.length : Int))) (by simp only; omega)
 have v11 := v10.other ⟨w.heap.size + 1 + 1, 0, none⟩ (.int .i64 0) (by simp only; omega); have e11 := e10.set 0 (.int .i64 0); have q11 := q10.other ⟨w.heap.size + 1 + 1, 0, none⟩ (.int .i64 0) (by simp only; omega)
 obtain ⟨l0, l1, l2, l3, l4⟩ := v9.a5; have l5 := q9.at 0 rfl
 obtain ⟨m0, m1, m2, m3, m4⟩ := v10.a5; have m5 := q10.at 0 rfl
 obtain ⟨o0, o1, o2, o3, o4⟩ := v11.a5; have o5 := q11.at 0 rfl
 have U9 := Upd.at5 w8 w.heap.size (.int .u8 tk) (.int .u64 tn) (.string ts) (.slice ka tks.length kc) (.slice la tl.length lc); have V9 := v8.fresh5 (.int .u8 tk) (.int .u64 tn) (.string ts) (.slice ka tks.length kc) (.slice la tl.length lc); have N9 := n8.upd U9 (fun e => by omega); have E9 := e8.upd U9 (fun e => by omega); have Q9 := q8.q.upd U9 (fun e => by omega); have V10 := V9.other ⟨w.heap.size + 1, 0, none⟩ (.int .i64 ((L.length : Int) - (r.length : Int))) (by simp only; omega); have N10 := N9.set 0 (.int .i64 ((L.length : Int) - (r.length : Int))); have E10 := E9.other ⟨w.heap.size + 1, 0, none⟩ (.int .i64 ((L.length : Int) - (r.length : Int))) (by simp only; omega); have Q10 := Q9.other ⟨w.heap.size + 1, 0, none⟩ (.int .i64 ((L.length : Int) - (r.length : Int))) (by simp only; omega)
 obtain ⟨h0, h1, h2, h3, h4⟩ := v8.a5; obtain ⟨j0, j1, j2, j3, j4⟩ := v8.f5; have h5 := N9.at 0 rfl; have j5 := N9.frozen 0; have h6 := E10.at 0 rfl; have j6 := E10.frozen 0
 have V11 := V10.other ⟨w.heap.size + 1 + 1, 0, none⟩ (.int .i64 0) (by simp only; omega); have N11 := N10.other ⟨w.heap.size + 1 + 1, 0, none⟩ (.int .i64 0) (by simp only; omega); have E11 := E10.set 0 (.int .i64 0); have Q11 := Q10.other ⟨w.heap.size + 1 + 1, 0, none⟩ (.int .i64 0) (by simp only; omega)
 have V9d := V9.drew; have Q9d := Q9.drew
 obtain ⟨aa0, aa1, aa2, aa3, aa4⟩ := V9d.a5; have aa5 := Q9d.at 0 rfl
 have V10d := V10.drew; have Q10d := Q10.drew
 obtain ⟨ab0, ab1, ab2, ab3, ab4⟩ := V10d.a5; have ab5 := Q10d.at 0 rfl
 have V11d := V11.drew; have Q11d := Q11.drew
 obtain ⟨ac0, ac1, ac2, ac3, ac4⟩ := V11d.a5; have ac5 := Q11d.at 0 rfl
 have y0 := n9.at 0 rfl; have y1 := n9.frozen 0; have y2 := e10.at 0 rfl; have y3 := e10.frozen 0
 refine wp_region_noPanic ?_
 refine wp_region_held_drew (S := (fun w' => w'.cell? ⟨w.heap.size, 0, none⟩ = some (.int .u8 tk) ∧ w'.cell? ⟨w.heap.size, 1, none⟩ = some (.int .u64 tn) ∧ w'.cell? ⟨w.heap.size, 2, none⟩ = some (.string ts) ∧ w'.cell? ⟨w.heap.size, 3, none⟩ = some (.slice ka tks.length kc) ∧ w'.cell? ⟨w.heap.size, 4, none⟩ = some (.slice la tl.length lc) ∧ w'.cell? ⟨w4.heap.size, 0, none⟩ = some (.pointer (some ⟨rb, 0, none⟩)))) (by kernel_rfl) ?_ (fun zg => ?_)
 ·exact aed
 refine tkF 0 zg ?_ (fun w hSw => hSw)
 refine tkF 1 zg ?_ (fun w hSw => hSw)
 refine tkF 2 zg ?_ (fun w hSw => hSw)
 refine tkF 3 zg ?_ (fun w hSw => hSw)
 refine tkF 4 zg ?_ (fun w hSw => hSw)
 refine tkF 5 zg ?_ (fun w hSw => hSw)
 refine tkF 6 zg ?_ (fun w hSw => hSw)
 refine aai 7 rfl (fun K hK => ?_)
 go_simp
 (go_at_call 171; refine (atb _ w4.heap.size rb vb _ left false (q8.pure (aad (qz w8.heap.size w8)))).mono ?_; rintro e _ ⟨rfl, rfl⟩)
 refine hK.out _ _ ?_ (fun zg => ?_)
 ·exact aed
 clear hK K
 (try simp only [Act.put, lsT, lsZ, lsS])
 refine tkF 8 zg ?_ (fun w hSw => hSw)
 refine aai 9 rfl (fun K hK => ?_)
 go_simp
 skip
 refine hK.out _ _ ?_ (fun zg => ?_)
 ·exact aed
 clear hK K
 (try simp only [Act.put, lsT, lsZ, lsS])
 refine aai 10 rfl (fun K hK => ?_)
 go_simp
 skip
 refine hK.out _ _ ?_ (fun zg => ?_)
 ·exact aed
 clear hK K
 (try simp only [Act.put, lsT, lsZ, lsS])
 refine aai 11 rfl (fun K hK => ?_)
 go_simp
 skip
 refine hK.out _ _ ?_ (fun zg => ?_)
 ·exact aed
 clear hK K
 (try simp only [Act.put, lsT, lsZ, lsS])
 refine wpAnyH_done (by kernel_rfl) ?_ _
 refine NoPanic.normal ?_
 go_wp2
 have N11d := N11.drew; have E11d := E11.drew
 obtain ⟨g0, g1, g2, g3, g4⟩ := V11d.a5; have g5 := N11d.at 0 rfl; have g6 := E11d.at 0 rfl
 have hU := ((((U9.mono (T := OnG w.heap.size) (fun i e _ => Or.inl e)).trans (Upd.set (S := OnG w.heap.size) (p := ⟨w.heap.size + 1, 0, none⟩) (Or.inr (Or.inl rfl)) (.int .i64 ((L.length : Int) - (r.length : Int)))) (fun _ h _ => h)).trans (Upd.set (S := OnG w.heap.size) (p := ⟨w.heap.size + 1 + 1, 0, none⟩) (Or.inr (Or.inr rfl)) (.int .i64 0)) (fun _ h _ => h))).drew
 refine leaves_cons (f := 199) (args := #[.pointer (some ⟨w.heap.size, 0, none⟩), .pointer (some ⟨w.heap.size + 1, 0, none⟩), .pointer (some ⟨w.heap.size + 1 + 1, 0, none⟩)]) (by simp) (by simp [go_sem]) ?_
 refine (ata _ (w.heap.size)).mono ?_
 rintro e u' w10 ⟨rfl, rfl, rfl⟩
 simp only [Leaves, settle]
 refine ⟨.tuple #[.agg #[.int .u8 tk, .int .u64 tn, .string ts, .slice ka tks.length kc, .slice la tl.length lc], .int .i64 ((L.length : Int) - (r.length : Int)), .int .i64 0], (by simp [results, Tryz.results172, go_sem, g0, g1, g2, g3, g4, g5, g6]), ?_⟩
 have hh5 := hb5.size
 refine ⟨.mk tk tn ts (.slice ka tks.length kc) (.slice la tl.length lc) tks tl, by rw [Int.ofNat_sub hrl]; rfl, htvh.out, ?_, ay6 hT8 hU⟩
 exact (hR8.upd hU (fun i hi e => by unfold OnG at e; omega)).weaken (fun i _ hi => by omega)
theorem aci {P : Prop} (h : P := by
 go_enter func77, ntmps77
 go_wp2
 go_ret
 exact ⟨rfl, rfl⟩) : P := h
theorem awv (w : World) (k : Int) : Calls prog 77 #[.int .u8 k] w fun e w' => e = .returned (.int .i64 (us k)) ∧ w = w' := by
 by_cases h1 : k = 1
 ·subst h1
  exact aci
 by_cases h2 : k = 2
 ·subst h2
  exact aci
 by_cases h3 : k = 3
 ·subst h3
  exact aci
 by_cases h4 : k = 4
 ·subst h4
  exact aci
 by_cases h5 : k = 5
 ·subst h5
  exact aci
 by_cases h6 : k = 6
 ·subst h6
  exact aci
 by_cases h7 : k = 7
 ·subst h7
  exact aci
 by_cases h8 : k = 8
 ·subst h8
  exact aci
 by_cases h9 : k = 9
 ·subst h9
  exact aci
 have e0 : us k = 0 := by unfold us; simp only [h1, h2, h3, h4, h5, h6, h7, h8, h9, if_false, or_self]
 have b1 : (k == 1) = false := ju.2 h1; have d1 : decide (k = 1) = false := qg h1
 have b2 : (k == 2) = false := ju.2 h2; have d2 : decide (k = 2) = false := qg h2
 have b3 : (k == 3) = false := ju.2 h3; have d3 : decide (k = 3) = false := qg h3
 have b4 : (k == 4) = false := ju.2 h4; have d4 : decide (k = 4) = false := qg h4
 have b5 : (k == 5) = false := ju.2 h5; have d5 : decide (k = 5) = false := qg h5
 have b6 : (k == 6) = false := ju.2 h6; have d6 : decide (k = 6) = false := qg h6
 have b7 : (k == 7) = false := ju.2 h7; have d7 : decide (k = 7) = false := qg h7
 have b8 : (k == 8) = false := ju.2 h8; have d8 : decide (k = 8) = false := qg h8
 have b9 : (k == 9) = false := ju.2 h9; have d9 : decide (k = 9) = false := qg h9
 have e0h := qq e0
 clear e0
 go_enter func77, ntmps77
 go_wp2
 go_ret
 exact ⟨by rw [e0h.out]; rfl, rfl⟩
theorem agf (w : World) (n : Int) : Calls prog 79 #[.int .u64 n] w fun e w' => e = .returned (.bool (ah2 n)) ∧ w = w' := by
 unfold ah2
 by_cases h1 : 1 ≤ n
 ·have d1 : decide (1 ≤ n) = true := qp h1
  obtain ⟨b, hb⟩ := zz (decide (n ≤ 1099511627776)); rw [d1, hb]; clear h1; go_enter func79, ntmps79; go_wp2; go_ret; exact ⟨by simp, rfl⟩
 ·have d1 : decide (1 ≤ n) = false := qg h1
  rw [d1]; clear h1; go_enter func79, ntmps79; go_wp2; go_ret; exact ⟨by simp, rfl⟩
def qc (c : UInt8) : Bool := decide (33 ≤ c.toNat) && decide (c.toNat ≤ 126)
theorem ayi (s : ByteArray) : qn s = (decide (1 ≤ s.size) && decide (s.size ≤ 40) && s.data.toList.all qc) := rfl
theorem amk {L : List UInt8} {k : Nat} (hk : k < L.length) (h : (L.take k).all qc = true) (hq : qc L[k] = true) : (L.take (k + 1)).all qc = true := by
 rw [jx hk, List.all_append, h]
 simp [hq]
theorem at3 {L : List UInt8} {k : Nat} (hk : k < L.length) (hq : qc L[k] = false) : L.all qc = false := by
 rw [Bool.eq_false_iff]
 intro h
 rw [jt] at h
 rw [h _ (qy hk)] at hq
 exact jp hq (by simp)
theorem acx (w : World) (s : ByteArray) : Calls prog 78 #[.string s] w fun e w' => e = .returned (.bool (qn s)) ∧ Below w.heap.size w w' := by
 by_cases h0 : s.size = 0
 ·obtain rfl : s = ⟨#[]⟩ := af5 h0
  clear h0; go_enter func78, ntmps78; go_wp2; go_ret; exact ⟨rfl, qz _ _⟩
 have g1 : ¬ s.toList = [] := fun e => h0 (by rw [← acr, e]; rfl)
 have g2 := aeg (show 0 < s.size by omega)
 by_cases h1 : 40 < s.size
 ·have d1 : decide ((40 : Int) < (s.size : Int)) = true := qp (by omega)
  have d2 : (40 : Int) < (s.size : Int) := by omega
  have hq := qq (show qn s = false by rw [ayi, qg (show ¬ s.size ≤ 40 by omega)]; simp); clear h0 h1; go_enter func78, ntmps78; go_wp2; go_ret; exact ⟨by rw [hq.out]; rfl, qz _ _⟩
 have d1 : decide ((40 : Int) < (s.size : Int)) = false := qg (by omega)
 have d2 : ¬ (40 : Int) < (s.size : Int) := by omega
 have hq := qq (show qn s = s.data.toList.all qc by rw [ayi, qp (show 1 ≤ s.size by omega), qp (show s.size ≤ 40 by omega)]; simp)
 have hl := qq (acj s)
 clear h0 h1
 go_enter func78, ntmps78
 go_wp2
 go_loopw [13] (fun s13 wr => ∃ k : Nat, k ≤ s.size ∧ s13 = .int .i64 k ∧ Hid ((s.data.toList.take k).all qc = true) ∧ Below w.heap.size w wr) (fun s13 _ => s.size - (intOf s13).toNat)
 case atStart => exact ⟨0, by omega, rfl, qq (by simp), qz _ _⟩
 case round =>
  obtain ⟨k, hk, rfl, hA, hB⟩ := hrel; by_cases hlt : k < s.size
  ·have h1 : (k : Int) < (s.size : Int) := by omega
   have hkl : k < s.data.toList.length := by rw [hl.out]; exact hlt
   have hbt := qq (show s[k] = s.data.toList[k] by simp [ByteArray.getElem_eq_getElem_data]); by_cases c1 : s[k].toNat < 33
   ·have d3 : decide ((s[k].toNat : Int) < 33) = true := qp (by omega)
    have d4 : ((s[k].toNat : Int) < 33) := by omega
    have hno := qq (show s.data.toList.all qc = false from at3 hkl (by rw [← hbt.out]; unfold qc; simp; omega)); clear c1; go_wp2; go_ret; exact ⟨by rw [hq.out, hno.out]; simp; try rfl, hB⟩
   by_cases c2 : 126 < s[k].toNat
   ·have d3 : decide ((s[k].toNat : Int) < 33) = false := qg (by omega)
    have d4 : ¬ ((s[k].toNat : Int) < 33) := by omega
    have d5 : decide ((126 : Int) < (s[k].toNat : Int)) = true := qp (by omega); have d6 : ((126 : Int) < (s[k].toNat : Int)) := by omega
    have hno := qq (show s.data.toList.all qc = false from at3 hkl (by rw [← hbt.out]; unfold qc; simp; omega)); clear c1 c2; go_wp2; go_ret; exact ⟨by rw [hq.out, hno.out]; simp; try rfl, hB⟩
   have d3 : decide ((s[k].toNat : Int) < 33) = false := qg (by omega); have d4 : ¬ ((s[k].toNat : Int) < 33) := by omega
   have d5 : decide ((126 : Int) < (s[k].toNat : Int)) = false := qg (by omega); have d6 : ¬ ((126 : Int) < (s[k].toNat : Int)) := by omega
   have hA2 := qq (amk hkl hA.out (by rw [← hbt.out]; unfold qc; simp; omega)); clear c1 c2; go_wp2; go_roundw
   case rel => exact ⟨k + 1, by omega, by go_num, hA2, hB⟩
   case measure => simp [intOf]; omega
  ·obtain rfl : k = s.size := by omega
   have hA2 := qq (show s.data.toList.all qc = true by have h := hA.out; rwa [List.take_of_length_le (by rw [hl.out]; exact qj _)] at h); go_wp2; go_ret; exact ⟨by rw [hq.out, hA2.out]; rfl, hB⟩
theorem ae9 (a b : ByteArray) : (a.toList == b.toList) = (a == b) := (beq_toListBytes a b).symm
theorem azr (w : World) (xf yf : Int) (xg xb yg yb : ByteArray) : (binOp .eql 30 (.agg #[.int .u32 xf, .string xg, .string xb]) (.agg #[.int .u32 yf, .string yg, .string yb])).run prog w = .ok (.bool (xf == yf && (xg == yg && xb == yb))) w := by
 have hf : prog.fieldsOf 30 = (match prog.underlying 30 with | some (.struct fs) => fs | _ => #[]) := rfl
 rw [underlying30] at hf
 simp only at hf
 rw [run_eql_struct, show (10000 : Nat) = 9999 + 1 from rfl, run_equalIn_agg w 9999 _ _ _ (by rw [hf]; exact underlying30) (by kernel_rfl), hf]
 cases h1 : (xf == yf) <;> cases h2 : (xg == yg) <;> cases h3 : (xb == yb) <;> simp [go_sem, ae9, h1, h2, h3]
theorem azs (w : World) (xf yf : Int) (xg xb yg yb : ByteArray) : (binOp .neq 30 (.agg #[.int .u32 xf, .string xg, .string xb]) (.agg #[.int .u32 yf, .string yg, .string yb])).run prog w = .ok (.bool ((xf, xg, xb) != (yf, yg, yb))) w := by
 have hf : prog.fieldsOf 30 = (match prog.underlying 30 with | some (.struct fs) => fs | _ => #[]) := rfl
 rw [underlying30] at hf
 simp only at hf
 rw [run_neq_struct, show (10000 : Nat) = 9999 + 1 from rfl, run_equalIn_agg w 9999 _ _ _ (by rw [hf]; exact underlying30) (by kernel_rfl), hf]
 have hh : ((xf, xg, xb) != (yf, yg, yb)) = !(xf == yf && (xg == yg && xb == yb)) := rfl
 rw [hh]
 cases h1 : (xf == yf) <;> cases h2 : (xg == yg) <;> cases h3 : (xb == yb) <;> simp [go_sem, ae9, h1, h2, h3]
theorem aes {P : Prop} (h : P := by
 go_enter func53, ntmps53
 go_wp2
 go_ret
 exact ⟨rfl, (qz _ _).alloc (qj _) _⟩) : P := h
theorem at4 (w : World) (x : Xn) :
 Calls prog 53 #[.agg #[.int .u32 x.1, .string x.2.1, .string x.2.2]] w fun e w' => e = .returned (.int .i64 (if 0 < x.2.1.size ∧ x.2.1.size ≤ 64 ∧ x.2.2.size ≤ 64 then 0 else 40)) ∧ Below w.heap.size w w' := by
 obtain ⟨xf, xg, xb⟩ := x
 simp only
 by_cases h0 : 0 < xg.size
 ·have he := aeg h0
  by_cases h1 : xg.size ≤ 64
  ·by_cases h2 : xb.size ≤ 64
   ·rw [qw ⟨h0, h1, h2⟩]
    have g1 : ¬ 64 < xg.size := by omega
    have g2 : ¬ 64 < xb.size := by omega
    exact aes
   ·rw [qk (fun h => h2 h.2.2)]
    have g1 : ¬ 64 < xg.size := by omega
    have g2 : 64 < xb.size := by omega
    exact aes
  ·rw [qk (fun h => h1 h.2.1)]
   have g1 : 64 < xg.size := by omega
   exact aes
 ·rw [qk (fun h => h0 h.1)]
  have he := agt (show xg.size = 0 by omega); exact aes
theorem ayj (w : World) (xf : Int) (xg xb : ByteArray) : Calls prog 53 #[.agg #[.int .u32 xf, .string xg, .string xb]] w fun e w' => e = .returned (.int .i64 (if Xn.okB (xf, xg, xb) then 0 else 40)) ∧ Below w.heap.size w w' := by
 refine (at4 w (xf, xg, xb)).mono fun e w' ⟨he, hB⟩ => ⟨?_, hB⟩
 rw [he]
 unfold Xn.okB
 by_cases h : 0 < xg.size ∧ xg.size ≤ 64 ∧ xb.size ≤ 64
 ·simp [h.1, h.2.1, h.2.2]
 ·rw [qk h, qk (fun e => h (by simpa [and_assoc] using e))]
theorem agh {P : Prop} (h : P := by
 go_wp2_with (go_at_call 134; refine (hputh.out).mono ?_; rintro e w2 ⟨rfl, hB2⟩; have hB12 := hB1.trans (hB2.mono hB1.size))
 go_ret
 exact ⟨by rw [hsm.out]; rfl, hB12⟩) : P := h
theorem arj (t : PT) (P : Nat → Prop) (w : World) (hR : Rd P w t.app) (hT : Tb w) : Calls prog 160 #[t.arg] w fun e w' => e = .returned (.bool t.p.smallB) ∧ Below w.heap.size w w' := by
 obtain ⟨key, dur, red, mid, tv⟩ := t
 have hR : Rd _ _ tv := hR
 obtain ⟨tk, tn, ts, tka, tkc, tla, tlc, tks, tl, rfl, -⟩ := hR.open
 have hB1 := (qz w.heap.size w).alloc (qj _) (.cells #[.string key, .bool dur, .bool red, .string mid, .int .u8 tk, .int .u64 tn, .string ts, .slice tka tks.length tkc, .slice tla tl.length tlc] 58)
 have A1 := Blk.new w [.string key, .bool dur, .bool red, .string mid, .int .u8 tk, .int .u64 tn, .string ts, .slice tka tks.length tkc, .slice tla tl.length tlc] 58
 have hput := ajj (PT.mk key dur red mid (VT.mk tk tn ts (.slice tka tks.length tkc) (.slice tla tl.length tlc) tks tl)) P _ (hR.pure hB1) (hT.pure hB1)
 obtain ⟨px, hpx⟩ := zz ((PT.mk key dur red mid (VT.mk tk tn ts (.slice tka tks.length tkc) (.slice tla tl.length tlc) tks tl)).p)
 obtain ⟨cx, hcx⟩ := zz px.chk
 obtain ⟨tx, htx⟩ := zz (if cx = 0 then px.text else (⟨#[]⟩ : ByteArray))
 rw [hpx, hcx, htx, PT.arg_mk] at hput
 rw [hpx, PT.arg_mk]
 have hputh := qq hput
 obtain ⟨a0, a1, a2, a3, a4, a5, a6, a7, a8⟩ := A1.a9
 clear hput hpx
 by_cases h0 : cx = 0
 ·subst h0
  rw [qw rfl] at htx; obtain ⟨b, hb⟩ := zz (decide (px.bytes.length ≤ 8192)); have hsm := qq (show px.smallB = b by unfold Pr.smallB; rw [hcx, hb]; rfl)
  have hz : decide ((tx.size : Int) ≤ 8192) = b := by
   rw [← hb, ← htx]; have e : px.text.size = px.bytes.length := rfl; rw [e]; by_cases h : px.bytes.length ≤ 8192
   ·rw [qp h]; exact qp (by omega)
   ·rw [qg h]; exact qg (by omega)
  have hz2 : decide (tx.size ≤ 8192) = b := by
   rw [← hz]; by_cases h : tx.size ≤ 8192
   ·rw [qp h]; exact (qp (by omega)).symm
   ·rw [qg h]; exact (qg (by omega)).symm
  clear htx hb hcx; go_enter func160, ntmps160; cases b
  ·have hz3 : ¬ tx.size ≤ 8192 := jq hz2
   have hz4 : ¬ (tx.size : Int) ≤ 8192 := by omega
   exact agh
  ·have hz3 : tx.size ≤ 8192 := qt hz2
   have hz4 : (tx.size : Int) ≤ 8192 := by omega
   exact agh
 ·have h1 : (cx == 0) = false := ju.2 h0
  have hsm := qq (show px.smallB = false by unfold Pr.smallB; rw [qg (by rw [hcx]; exact h0)]; rfl); clear htx hcx h0; go_enter func160, ntmps160; exact agh
theorem ahp {P : Prop} (h : P := by
 cases bb
 ·have y1 : ¬ body.size ≤ 4096 := jq z3
  have y2 : ¬ (body.size : Int) ≤ 4096 := by omega
  go_enter func132, ntmps132; go_wp2_with (first | (go_at_call 78; refine (acx _ q).mono ?_; rintro e w2 ⟨he, hB2⟩; rw [hqbh.out] at he; subst he; have A2 := A1.pure hB2; have R2 := R1.pure hB2; have hT2 := hB1.trans (hB2.mono hB1.size); obtain ⟨b0, b1, b2, b3, b4, b5, b6, b7, b8, b9, b10, b11⟩ := A2.a12) | (go_at_call 79; (with_reducible refine (agf _ _).mono ?_); rintro e w3 ⟨he, rfl⟩; rw [hibh.out] at he; subst he)); go_ret; exact ⟨by rw [hok.out]; cases sb <;> rfl, hT2⟩
 ·have y1 : body.size ≤ 4096 := qt z3
  have y2 : (body.size : Int) ≤ 4096 := by omega
  go_enter func132, ntmps132; go_wp2_with (first | (go_at_call 78; refine (acx _ q).mono ?_; rintro e w2 ⟨he, hB2⟩; rw [hqbh.out] at he; subst he; have A2 := A1.pure hB2; have R2 := R1.pure hB2; have hT2 := hB1.trans (hB2.mono hB1.size); obtain ⟨b0, b1, b2, b3, b4, b5, b6, b7, b8, b9, b10, b11⟩ := A2.a12) | (go_at_call 79; (with_reducible refine (agf _ _).mono ?_); rintro e w3 ⟨he, rfl⟩; rw [hibh.out] at he; subst he) | (go_at_call 160; refine (hsmh.out _ R2 (hT.pure hT2)).mono ?_; rintro e w4 ⟨rfl, hB4⟩; have hT4 := hT2.trans (hB4.mono hT2.size))); go_ret
  exact ⟨by rw [hok.out]; cases sb <;> rfl, hT4⟩) : P := h
theorem ajt {P : Prop} (h : P := by
 clear z4
 cases zb <;> cases bb <;> (
  go_enter func132, ntmps132; go_wp2_with (first | (go_at_call 78; refine (acx _ q).mono ?_; rintro e w2 ⟨he, hB2⟩; rw [hqbh.out] at he; subst he; have A2 := A1.pure hB2; have R2 := R1.pure hB2; have hT2 := hB1.trans (hB2.mono hB1.size); obtain ⟨b0, b1, b2, b3, b4, b5, b6, b7, b8, b9, b10, b11⟩ := A2.a12) | (go_at_call 79; (with_reducible refine (agf _ _).mono ?_); rintro e w3 ⟨he, rfl⟩; rw [hibh.out] at he; subst he)); go_ret
  exact ⟨by rw [hok.out]; cases sb <;> rfl, hT2⟩)) : P := h
theorem ark (t : PtT) (num : Bool) (P : Nat → Prop) (w : World) (hR : Rd P w t.pr.app) (hT : Tb w) : Calls prog 132 #[t.arg, .bool num] w fun e w' => e = .returned (.bool (Pt.okB num t.p)) ∧ Below w.heap.size w w' := by
 obtain ⟨q, id, ⟨key, dur, red, mid, uv⟩, body⟩ := t
 have hR : Rd _ _ uv := hR
 obtain ⟨uk, un, us, uka, ukc, ula, ulc, uks, ul, rfl, -⟩ := hR.open
 rw [PtT.arg_mk]
 have hB1 := (qz w.heap.size w).alloc (qj _) (.cells #[.string q, .int .u64 id, .string key, .bool dur, .bool red, .string mid, .int .u8 uk, .int .u64 un, .string us, .slice uka uks.length ukc, .slice ula ul.length ulc, .string body] 64)
 have A1 := Blk.new w [.string q, .int .u64 id, .string key, .bool dur, .bool red, .string mid, .int .u8 uk, .int .u64 un, .string us, .slice uka uks.length ukc, .slice ula ul.length ulc, .string body] 64
 have R1 := hR.pure hB1
 obtain ⟨sb, hsb⟩ := zz ((PT.mk key dur red mid (VT.mk uk un us (.slice uka uks.length ukc) (.slice ula ul.length ulc) uks ul)).p.smallB)
 have hsmall := fun (u : World) (R : Rd P u (VT.mk uk un us (.slice uka uks.length ukc) (.slice ula ul.length ulc) uks ul)) (hu : Tb u) => arj (PT.mk key dur red mid (VT.mk uk un us (.slice uka uks.length ukc) (.slice ula ul.length ulc) uks ul)) P u R hu
 simp only [hsb, PT.arg_mk] at hsmall
 have hsmh := qq hsmall
 obtain ⟨qb, hqb⟩ := zz (qn q)
 obtain ⟨ib, hib⟩ := zz (ah2 id)
 obtain ⟨zb, hzb⟩ := zz (decide (id = 0))
 obtain ⟨bb, hbb⟩ := zz (decide (body.size ≤ 4096))
 have hok := qq (show Pt.okB num (PtT.mk q id (PT.mk key dur red mid (VT.mk uk un us (.slice uka uks.length ukc) (.slice ula ul.length ulc) uks ul)) body).p = (qb && (ib == num) && (num || zb) && bb && sb) by rw [← hqb, ← hib, ← hzb, ← hbb, ← hsb]; rfl)
 have hqbh := qq hqb; have hibh := qq hib
 have z1 : (id == 0) = zb := by rw [← hzb]; rfl
 have z2 : decide ((body.size : Int) ≤ 4096) = bb := by
  rw [← hbb]; by_cases h : body.size ≤ 4096
  ·rw [qp h]; exact qp (by omega)
  ·rw [qg h]; exact qg (by omega)
 have z3 := hbb
 have z4 := hzb
 clear hsmall hsb hqb hib hzb hbb
 obtain ⟨a0, a1, a2, a3, a4, a5, a6, a7, a8, a9, a10, a11⟩ := A1.a12
 cases qb
 ·clear z1 z2 z3 z4
  cases ib <;> cases num <;> cases zb <;> cases bb <;> (
   go_enter func132, ntmps132; go_wp2_with (first | (go_at_call 78; refine (acx _ q).mono ?_; rintro e w2 ⟨he, hB2⟩; rw [hqbh.out] at he; subst he; have A2 := A1.pure hB2; have R2 := R1.pure hB2; have hT2 := hB1.trans (hB2.mono hB1.size); obtain ⟨b0, b1, b2, b3, b4, b5, b6, b7, b8, b9, b10, b11⟩ := A2.a12) | (go_at_call 79; (with_reducible refine (agf _ _).mono ?_); rintro e w3 ⟨he, rfl⟩; rw [hibh.out] at he; subst he)); go_ret
   exact ⟨by rw [hok.out]; cases sb <;> rfl, hT2⟩)
 cases num
 ·cases ib
  ·cases zb
   ·have y3 : ¬ id = 0 := jq z4
    cases bb <;> (
     go_enter func132, ntmps132; go_wp2_with (first | (go_at_call 78; refine (acx _ q).mono ?_; rintro e w2 ⟨he, hB2⟩; rw [hqbh.out] at he; subst he; have A2 := A1.pure hB2; have R2 := R1.pure hB2; have hT2 := hB1.trans (hB2.mono hB1.size); obtain ⟨b0, b1, b2, b3, b4, b5, b6, b7, b8, b9, b10, b11⟩ := A2.a12) | (go_at_call 79; (with_reducible refine (agf _ _).mono ?_); rintro e w3 ⟨he, rfl⟩; rw [hibh.out] at he; subst he)); go_ret
     exact ⟨by rw [hok.out]; cases sb <;> rfl, hT2⟩)
   ·obtain rfl : id = 0 := qt z4
    exact ahp
  ·exact ajt
 ·cases ib
  ·exact ajt
  ·cases zb
   ·have y3 : ¬ id = 0 := jq z4
    exact ahp
   ·obtain rfl : id = 0 := qt z4
    exact ahp
theorem at6 (t : PtT) (kind : Int) (eb : Nat) (P : Nat → Prop) (w : World) (hE : w.cell? ⟨eb, 0, none⟩ = some (.int .u8 kind)) (hel : eb < w.heap.size) (hR : Rd P w t.pr.app) (hT : Tb w) :
 Calls prog 131 #[t.arg, .pointer (some ⟨eb, 0, none⟩)] w fun e w' => e = .returned (.bool (!Pt.okB (kind == 3) t.p)) ∧ Below w.heap.size w w' := by
 obtain ⟨q, id, ⟨key, dur, red, mid, uv⟩, body⟩ := t
 have hR : Rd _ _ uv := hR
 obtain ⟨uk, un, us, uka, ukc, ula, ulc, uks, ul, rfl, -⟩ := hR.open
 rw [PtT.arg_mk]
 have hB1 := (qz w.heap.size w).alloc (qj _) (.cells #[.string q, .int .u64 id, .string key, .bool dur, .bool red, .string mid, .int .u8 uk, .int .u64 un, .string us, .slice uka uks.length ukc, .slice ula ul.length ulc, .string body] 64)
 have A1 := Blk.new w [.string q, .int .u64 id, .string key, .bool dur, .bool red, .string mid, .int .u8 uk, .int .u64 un, .string us, .slice uka uks.length ukc, .slice ula ul.length ulc, .string body] 64
 have R1 := hR.pure hB1
 obtain ⟨nb, hnb⟩ := zz (kind == 3)
 obtain ⟨rb, hrb⟩ := zz (Pt.okB nb (PtT.mk q id (PT.mk key dur red mid (VT.mk uk un us (.slice uka uks.length ukc) (.slice ula ul.length ulc) uks ul)) body).p)
 have hm := ark (PtT.mk q id (PT.mk key dur red mid (VT.mk uk un us (.slice uka uks.length ukc) (.slice ula ul.length ulc) uks ul)) body) nb P _ R1 (hT.pure hB1)
 rw [PtT.arg_mk, hrb] at hm
 rw [hnb, hrb]
 have hmh := qq hm
 clear hm hrb
 obtain ⟨a0, a1, a2, a3, a4, a5, a6, a7, a8, a9, a10, a11⟩ := A1.a12
 go_enter func131, ntmps131
 go_wp2_with (go_at_call 132; refine (hmh.out).mono ?_; rintro e w2 ⟨rfl, hB2⟩; have hT2 := hB1.trans (hB2.mono hB1.size))
 go_ret
 exact ⟨rfl, hT2⟩
theorem at7 (w : World) (q : ByteArray) (id : Int) : Calls prog 133 #[.agg #[.string q, .int .u64 id]] w fun e w' => e = .returned (.bool (!Rf.okB ⟨q, id⟩)) ∧ Below w.heap.size w w' := by
 have hB1 := (qz w.heap.size w).alloc (qj _) (.cells #[.string q, .int .u64 id] 68)
 have A1 := Blk.new w [.string q, .int .u64 id] 68
 obtain ⟨a0, a1⟩ := A1.a2
 obtain ⟨qb, hqb⟩ := zz (qn q)
 obtain ⟨ib, hib⟩ := zz (ah2 id)
 rw [show Rf.okB ⟨q, id⟩ = (qb && ib) by rw [← hqb, ← hib]; rfl]
 have hqbh := qq hqb; have hibh := qq hib
 clear hqb hib
 cases qb
 all_goals
  go_enter func133, ntmps133; go_wp2_with (first | (go_at_call 78; refine (acx _ q).mono ?_; rintro e w2 ⟨he, hB2⟩; rw [hqbh.out] at he; subst he; have A2 := A1.pure hB2; have hT2 := hB1.trans (hB2.mono hB1.size); have b1 := A2.at 1 rfl) | (go_at_call 79; (with_reducible refine (agf _ _).mono ?_); rintro e w3 ⟨he, rfl⟩; rw [hibh.out] at he; subst he)); go_ret; exact ⟨by cases ib <;> rfl, hT2⟩
theorem ah3 {L : List PtT} {p : PtT → Bool} (k : Nat) (h1 : ∀ j, (h : j < L.length) → j < k → p L[j] = false) (h2 : (h : k < L.length) → p L[k] = true) : L.any p = decide (k < L.length) := by
 exact adu
theorem aww (w : World) (la : Option Addr) (lc : Nat) (L : List PtT) (P : Nat → Prop) (p : PtT → Bool) (eb : Nat) (hL : Slc aat 12 w (.slice la L.length lc) L) (hml : (L.length : Int) ≤ 9223372036854775807) (hsubh : Hid (∀ x ∈ L, Rd P w x.pr.app)) (hcall : Hid (∀ x ∈ L, ∀ u : World, Below w.heap.size w u → Calls prog 131 #[x.arg, .pointer (some ⟨eb, 0, none⟩)] u fun e u' => e = .returned (.bool (p x)) ∧ Below u.heap.size u u')) :
 Calls prog 141 #[.slice la L.length lc, .func (.func 131) #[] #[.pointer (some ⟨eb, 0, none⟩)]] w fun e w' => (∃ r : Int, e = .returned (.int .i64 r) ∧ decide (0 ≤ r) = L.any p) ∧ Below w.heap.size w w' := by
 go_enter func141, ntmps141
 go_wp2
 go_loopw [8] (fun s8 wr => ∃ k : Nat, k ≤ L.length ∧ s8 = .int .i64 k ∧ Hid (∀ j, (h : j < L.length) → j < k → p L[j] = false) ∧ Below w.heap.size w wr) (fun s8 _ => L.length - (intOf s8).toNat)
 case atStart => exact ⟨0, by omega, rfl, qq (fun j h h0 => jp h0 (by omega)), qz _ _⟩
 case round =>
  obtain ⟨k, hk, rfl, hno, hB⟩ := hrel; by_cases hlt : k < L.length
  ·have hLk := hL.pure hB
   obtain ⟨g, off, rfl⟩ := hLk.addrB hlt; have hRk := (hsubh.out L[k] (qy hlt)).pure hB; obtain ⟨q, id, key, dur, red, mid, uk, un, us, uka, ukc, ula, ulc, uks, ul, body, hx, q0, q1, q2, q3, q4, q5, q6, q7, q8, q9, q10, q11⟩ := ad5 hLk hlt hRk; have hi := hcall.out L[k] (qy hlt) wr hB; obtain ⟨b, hb⟩ := zz (p L[k]); rw [hb, hx, PtT.arg_mk] at hi; have hih := qq hi; have hbh := qq hb; clear hi hb hx; have h1 : (k : Int) < (L.length : Int) := by omega
   cases b
   ·go_wp2_with (go_at_call 131; (with_reducible refine hih.out.mono ?_); rintro e w1 ⟨rfl, hB1⟩; have hB2 := hB.trans (hB1.mono hB.size))
    exact ac8
   ·go_wp2_with (go_at_call 131; (with_reducible refine hih.out.mono ?_); rintro e w1 ⟨rfl, hB1⟩; have hB2 := hB.trans (hB1.mono hB.size))
    go_ret; exact ⟨⟨k, rfl, by rw [ah3 k hno.out (fun _ => hbh.out), qp hlt]; simp⟩, hB2⟩
  ·obtain rfl : k = L.length := by omega
   go_wp2; go_ret; exact ⟨⟨-1, rfl, by rw [ah3 L.length hno.out (fun h => jp h hlt), qg hlt]; decide⟩, hB⟩
theorem awx (w : World) (la : Option Addr) (lc : Nat) (L : List PtT) (P : Nat → Prop) (p : PtT → Bool) (eb : Nat) (hL : Slc aat 12 w (.slice la L.length lc) L) (hml : (L.length : Int) ≤ 9223372036854775807) (hsubh : Hid (∀ x ∈ L, Rd P w x.pr.app)) (hcall : Hid (∀ x ∈ L, ∀ u : World, Below w.heap.size w u → Calls prog 131 #[x.arg, .pointer (some ⟨eb, 0, none⟩)] u fun e u' => e = .returned (.bool (p x)) ∧ Below u.heap.size u u')) :
 Calls prog 91 #[.slice la L.length lc, .func (.func 131) #[] #[.pointer (some ⟨eb, 0, none⟩)]] w fun e w' => e = .returned (.bool (L.any p)) ∧ Below w.heap.size w w' := by
 go_enter func91, ntmps91
 go_wp2_with (go_at_call 141; (with_reducible refine (aww w la lc L P p eb hL hml hsubh hcall).mono ?_); rintro e w1 ⟨⟨r, rfl, hr⟩, hB1⟩)
 go_ret
 exact ⟨by rw [← hr]; rfl, hB1⟩
theorem ah4 {L : List Rf} {p : Rf → Bool} (k : Nat) (h1 : ∀ j, (h : j < L.length) → j < k → p L[j] = false) (h2 : (h : k < L.length) → p L[k] = true) : L.any p = decide (k < L.length) := by
 exact adu
theorem awy (w : World) (la : Option Addr) (lc : Nat) (L : List Rf) (p : Rf → Bool) (hL : Slc abc 2 w (.slice la L.length lc) L) (hml : (L.length : Int) ≤ 9223372036854775807) (hcall : Hid (∀ x ∈ L, ∀ u : World, Below w.heap.size w u → Calls prog 133 #[.agg #[.string x.q, .int .u64 x.id]] u fun e u' => e = .returned (.bool (p x)) ∧ Below u.heap.size u u')) :
 Calls prog 142 #[.slice la L.length lc, .func (.func 133) #[] #[]] w fun e w' => (∃ r : Int, e = .returned (.int .i64 r) ∧ decide (0 ≤ r) = L.any p) ∧ Below w.heap.size w w' := by
 go_enter func142, ntmps142
 go_wp2
 go_loopw [8] (fun s8 wr => ∃ k : Nat, k ≤ L.length ∧ s8 = .int .i64 k ∧ Hid (∀ j, (h : j < L.length) → j < k → p L[j] = false) ∧ Below w.heap.size w wr) (fun s8 _ => L.length - (intOf s8).toNat)
 case atStart => exact ⟨0, by omega, rfl, qq (fun j h h0 => jp h0 (by omega)), qz _ _⟩
 case round =>
  obtain ⟨k, hk, rfl, hno, hB⟩ := hrel; by_cases hlt : k < L.length
  ·have hLk := hL.pure hB
   obtain ⟨g, off, rfl⟩ := hLk.addrB hlt; obtain ⟨xq, xi, hx, q0, q1⟩ := ado hLk hlt; have hi := hcall.out L[k] (qy hlt) wr hB; obtain ⟨b, hb⟩ := zz (p L[k]); rw [hb, hx] at hi; have hih := qq hi; have hbh := qq hb; clear hi hb hx; have h1 : (k : Int) < (L.length : Int) := by omega
   cases b
   ·go_wp2_with (go_at_call 133; (with_reducible refine hih.out.mono ?_); rintro e w1 ⟨rfl, hB1⟩; have hB2 := hB.trans (hB1.mono hB.size))
    exact ac8
   ·go_wp2_with (go_at_call 133; (with_reducible refine hih.out.mono ?_); rintro e w1 ⟨rfl, hB1⟩; have hB2 := hB.trans (hB1.mono hB.size))
    go_ret; exact ⟨⟨k, rfl, by rw [ah4 k hno.out (fun _ => hbh.out), qp hlt]; simp⟩, hB2⟩
  ·obtain rfl : k = L.length := by omega
   go_wp2; go_ret; exact ⟨⟨-1, rfl, by rw [ah4 L.length hno.out (fun h => jp h hlt), qg hlt]; decide⟩, hB⟩
theorem awz (w : World) (la : Option Addr) (lc : Nat) (L : List Rf) (p : Rf → Bool) (hL : Slc abc 2 w (.slice la L.length lc) L) (hml : (L.length : Int) ≤ 9223372036854775807) (hcall : Hid (∀ x ∈ L, ∀ u : World, Below w.heap.size w u → Calls prog 133 #[.agg #[.string x.q, .int .u64 x.id]] u fun e u' => e = .returned (.bool (p x)) ∧ Below u.heap.size u u')) :
 Calls prog 93 #[.slice la L.length lc, .func (.func 133) #[] #[]] w fun e w' => e = .returned (.bool (L.any p)) ∧ Below w.heap.size w w' := by
 go_enter func93, ntmps93
 go_wp2_with (go_at_call 142; (with_reducible refine (awy w la lc L p hL hml hcall).mono ?_); rintro e w1 ⟨⟨r, rfl, hr⟩, hB1⟩)
 go_ret
 exact ⟨by rw [← hr]; rfl, hB1⟩
theorem aua {α : Type} (L : List α) (f : α → Bool) : L.any (fun x => !f x) = !L.all f := by induction L with | nil => rfl | cons x L ih => rw [List.any_cons, List.all_cons, ih, Bool.not_and]
theorem azt {α β : Type} (L : List α) (g : α → β) (f : β → Bool) : (L.map g).all f = L.all (fun x => f (g x)) := by induction L with | nil => rfl | cons x L ih => rw [List.map_cons, List.all_cons, List.all_cons, ih]
def EnT.wk (t : EnT) : Bool := decide (t.zu.length ≤ 100) && decide (t.zy.length ≤ 100) && t.zu.all (fun p => Pt.okB (t.kind == 3) p.p) && t.zy.all Rf.okB
theorem aw0 (t : EnT) (P : Nat → Prop) (w : World) (hR : EnRd P w t) (hT : Tb w) : Calls prog 80 #[t.arg] w fun e w' => e = .returned (.bool t.wk) ∧ Below w.heap.size w w' := by
 obtain ⟨kind, name, n, xf, xg, xb, pa, pc, ta, tc, zu, zy, rfl, hpl, htl⟩ := hR.open
 rw [EnT.arg_mk]
 have hB1 := (qz w.heap.size w).alloc (qj _) (.cells #[.int .u8 kind, .string name, .int .u64 n, .int .u32 xf, .string xg, .string xb, .slice pa zu.length pc, .slice ta zy.length tc] 34)
 have A1 := Blk.new w [.int .u8 kind, .string name, .int .u64 n, .int .u32 xf, .string xg, .string xb, .slice pa zu.length pc, .slice ta zy.length tc] 34
 have R1 := hR.pure hB1
 have hwk := qq (show (EnT.mk kind name n (xf, xg, xb) (.slice pa zu.length pc) (.slice ta zy.length tc) zu zy).wk = (decide (zu.length ≤ 100) && decide (zy.length ≤ 100) && zu.all (fun p => Pt.okB (kind == 3) p.p) && zy.all Rf.okB) from rfl)
 obtain ⟨a0, a1, a2, a3, a4, a5, a6, a7⟩ := A1.a8
 by_cases h1 : zu.length ≤ 100
 rotate_left 1
 ·have d1 : decide ((100 : Int) < (zu.length : Int)) = true := qp (by omega)
  have d2 : (100 : Int) < (zu.length : Int) := by omega
  have hno := qq (show (EnT.mk kind name n (xf, xg, xb) (.slice pa zu.length pc) (.slice ta zy.length tc) zu zy).wk = false by rw [hwk.out, qg h1]; simp); clear hpl htl h1; go_enter func80, ntmps80; go_wp2; go_ret; exact ⟨by rw [hno.out]; rfl, hB1⟩
 by_cases h2 : zy.length ≤ 100
 rotate_left 1
 ·have d1 : decide ((100 : Int) < (zu.length : Int)) = false := qg (by omega)
  have d2 : ¬ (100 : Int) < (zu.length : Int) := by omega
  have d3 : decide ((100 : Int) < (zy.length : Int)) = true := qp (by omega); have d4 : (100 : Int) < (zy.length : Int) := by omega
  have hno := qq (show (EnT.mk kind name n (xf, xg, xb) (.slice pa zu.length pc) (.slice ta zy.length tc) zu zy).wk = false by rw [hwk.out, qg h2]; simp); clear hpl htl h1 h2; go_enter func80, ntmps80; go_wp2; go_ret; exact ⟨by rw [hno.out]; rfl, hB1⟩
 have d1 : decide ((100 : Int) < (zu.length : Int)) = false := qg (by omega)
 have d2 : ¬ (100 : Int) < (zu.length : Int) := by omega
 have d3 : decide ((100 : Int) < (zy.length : Int)) = false := qg (by omega)
 have d4 : ¬ (100 : Int) < (zy.length : Int) := by omega
 have l1 : (zu.length : Int) ≤ 9223372036854775807 := by omega
 have l2 : (zy.length : Int) ≤ 9223372036854775807 := by omega
 have hE0 := (A1.at 0 rfl : (w.alloc (.cells #[.int .u8 kind, .string name, .int .u64 n, .int .u32 xf, .string xg, .string xb, .slice pa zu.length pc, .slice ta zy.length tc] 34)).cell? ⟨w.heap.size, 0, none⟩ = some (.int .u8 kind))
 obtain ⟨pb, hpb⟩ := zz (zu.all (fun p => Pt.okB (kind == 3) p.p))
 obtain ⟨tb, htb⟩ := zz (zy.all Rf.okB)
 have hres := qq (show (EnT.mk kind name n (xf, xg, xb) (.slice pa zu.length pc) (.slice ta zy.length tc) zu zy).wk = (pb && tb) by rw [hwk.out, qp h1, qp h2, hpb, htb]; rfl)
 have c1 := awx (w.alloc (.cells #[.int .u8 kind, .string name, .int .u64 n, .int .u32 xf, .string xg, .string xb, .slice pa zu.length pc, .slice ta zy.length tc] 34)) pa pc zu P (fun x => !Pt.okB (kind == 3) x.p) w.heap.size R1.p l1 (qq R1.r) (qq (fun x hx u hu => at6 x kind w.heap.size P u ((hu.cell (p := ⟨w.heap.size, 0, none⟩) A1.lt).trans hE0) (jg A1.lt hu.size) ((R1.r x hx).pure hu) (hT.pure (hB1.trans (hu.mono hB1.size)))))
 rw [aua, hpb] at c1
 have c2 := fun (u : World) (hS : Slc abc 2 u (.slice ta zy.length tc) zy) => awz u ta tc zy (fun x => !Rf.okB x) hS l2 (qq (fun x hx v hv => at7 v x.q x.id))
 simp only [aua, htb] at c2
 have c1h := qq c1; have c2h := qq c2
 clear c1 c2 hpb htb hE0 hpl htl h1 h2 l1 l2
 cases pb
 ·go_enter func80, ntmps80
  go_wp2_with (go_at_call 91; refine (c1h.out).mono ?_; rintro e w2 ⟨rfl, hB2⟩; have hT2 := hB1.trans (hB2.mono hB1.size)); go_ret; exact ⟨by rw [hres.out]; rfl, hT2⟩
 ·go_enter func80, ntmps80
  go_wp2_with (first | (go_at_call 91; refine (c1h.out).mono ?_; rintro e w2 ⟨rfl, hB2⟩; have hT2 := hB1.trans (hB2.mono hB1.size); have A2 := A1.pure hB2; have S2 := R1.s.pure hB2; obtain ⟨b0, b1, b2, b3, b4, b5, b6, b7⟩ := A2.a8) | (go_at_call 93; refine (c2h.out _ S2).mono ?_; rintro e w3 ⟨rfl, hB3⟩; have hT3 := hT2.trans (hB3.mono hT2.size))); go_ret; exact ⟨by rw [hres.out]; cases tb <;> rfl, hT3⟩
theorem bz (b : ByteArray) : (b == (⟨#[]⟩ : ByteArray)) = (b.size == 0) := by
 rw [beq_toListBytes]
 by_cases h : b.size = 0
 ·obtain rfl : b = ⟨#[]⟩ := af5 h
  rw [beq_self_eq_true]; rfl
 ·rw [ju.2 h, ju]
  intro e; exact h (by rw [← acr, e, acr]; rfl)
theorem xz (xf : Int) (xg xb : ByteArray) : ((xf, xg, xb) != ((0 : Int), (⟨#[]⟩ : ByteArray), (⟨#[]⟩ : ByteArray))) = !(xf == 0 && xg.size == 0 && xb.size == 0) := by
 show (!(xf == 0 && (xg == ⟨#[]⟩ && xb == ⟨#[]⟩))) = _
 rw [bz, bz, Bool.and_assoc]
theorem bdm (kind : Int) (name : ByteArray) (n xf : Int) (xg xb : ByteArray) (pv tv : Value) (zu : List PtT) (zy : List Rf) :
 (EnT.mk kind name n (xf, xg, xb) pv tv zu zy).e.okB = (!(us kind == 0) && ((if uN kind then qn name else name.size == 0) && ((if uM kind then ah2 n else n == 0) && ((if uX kind then Xn.okB (xf, xg, xb) else (xf == 0 && xg.size == 0 && xb.size == 0)) &&
  ((uW kind || (zu.isEmpty && zy.isEmpty)) && (EnT.mk kind name n (xf, xg, xb) pv tv zu zy).wk))))) := by
 have hm : (zu.map PtT.p).isEmpty = zu.isEmpty := by cases zu <;> rfl
 unfold EnT.wk EnT.e En.okB
 simp only [jf, azt, hm, Bool.and_assoc]
theorem aju {P : Prop} (h : P := by
 have qch := qq qc
 clear qc
 go_wp2_with (go_at_call 53; (with_reducible refine (qch.out _).mono ?_); rintro e w2 ⟨rfl, hB2⟩; have hb2 := hb.trans (hB2.mono hb.size))
 go_meet
 exact ⟨rfl, hb2⟩) : P := h
theorem aet {P : Prop} (h : P := by
 go_wp2
 go_ret
 exact ⟨by rw [hf.out]; rfl, hB1.trans (hb.mono hsz.out)⟩) : P := h
theorem alp {P : Prop} (h : P := by
 go_wp2_with (go_at_call 80; refine (hw3.out).mono ?_; rintro e w3 ⟨rfl, hB3⟩; have hb3 := hb.trans (hB3.mono hb.size))
 go_ret
 exact ⟨by rw [hf.out]; rfl, hB1.trans (hb3.mono hsz.out)⟩) : P := h
theorem arl (t : EnT) (P : Nat → Prop) (w : World) (hR : EnRd P w t) (hT : Tb w) : Calls prog 27 #[t.arg] w fun e w' => e = .returned (.int .i64 t.e.chk) ∧ Below w.heap.size w w' := by
 obtain ⟨kind, name, n, xf, xg, xb, pa, pc, ta, tc, zu, zy, rfl, hpl, htl⟩ := hR.open
 have hB1 := (qz w.heap.size w).alloc (qj _) (.cells #[.int .u8 kind, .string name, .int .u64 n, .int .u32 xf, .string xg, .string xb, .slice pa zu.length pc, .slice ta zy.length tc] 34)
 have A1 := Blk.new w [.int .u8 kind, .string name, .int .u64 n, .int .u32 xf, .string xg, .string xb, .slice pa zu.length pc, .slice ta zy.length tc] 34
 have R1 := hR.pure hB1
 obtain ⟨wk, hwk⟩ := zz ((EnT.mk kind name n (xf, xg, xb) (.slice pa zu.length pc) (.slice ta zy.length tc) zu zy).wk)
 have hw := fun (u : World) (R : EnRd P u (EnT.mk kind name n (xf, xg, xb) (.slice pa zu.length pc) (.slice ta zy.length tc) zu zy)) (hu : Tb u) => aw0 (EnT.mk kind name n (xf, xg, xb) (.slice pa zu.length pc) (.slice ta zy.length tc) zu zy) P u R hu
 simp only [hwk, EnT.arg_mk] at hw
 have hwh := qq hw
 obtain ⟨c1, hc1⟩ := zz (if uN kind then qn name else name.size == 0)
 obtain ⟨c2, hc2⟩ := zz (if uM kind then ah2 n else n == 0)
 obtain ⟨c3, hc3⟩ := zz (if uX kind then Xn.okB (xf, xg, xb) else (xf == 0 && xg.size == 0 && xb.size == 0))
 obtain ⟨c4, hc4⟩ := zz (uW kind || (zu.isEmpty && zy.isEmpty))
 obtain ⟨u, hu⟩ := zz (us kind)
 have hok := bdm kind name n xf xg xb (.slice pa zu.length pc) (.slice ta zy.length tc) zu zy
 rw [hwk, hc1, hc2, hc3, hc4, hu] at hok
 obtain ⟨b1, b2, b4, b8⟩ := bbs u (by rw [← hu]; exact bc8 kind)
 have hN : (u % 2 == 1) = uN kind := by rw [← hu]; rfl
 have hM : (u / 2 % 2 == 1) = uM kind := by rw [← hu]; rfl
 have hX : (u / 4 % 2 == 1) = uX kind := by rw [← hu]; rfl
 have hW : (u / 8 % 2 == 1) = uW kind := by rw [← hu]; rfl
 rw [hN] at b1; rw [hM] at b2; rw [hX] at b4; rw [hW] at b8
 obtain ⟨nb, hnb⟩ := zz (uN kind)
 obtain ⟨mb, hmb⟩ := zz (uM kind)
 obtain ⟨xB, hxb⟩ := zz (uX kind)
 obtain ⟨wb, hwb⟩ := zz (uW kind)
 rw [hnb] at hc1 b1; rw [hmb] at hc2 b2; rw [hxb] at hc3 b4; rw [hwb] at hc4 b8
 have hus := awv (w.alloc (.cells #[.int .u8 kind, .string name, .int .u64 n, .int .u32 xf, .string xg, .string xb, .slice pa zu.length pc, .slice ta zy.length tc] 34)) kind
 rw [hu] at hus
 have hush := qq hus
 obtain ⟨ok, hoke⟩ := zz ((EnT.mk kind name n (xf, xg, xb) (.slice pa zu.length pc) (.slice ta zy.length tc) zu zy).e.okB)
 have hchk := qq (show (EnT.mk kind name n (xf, xg, xb) (.slice pa zu.length pc) (.slice ta zy.length tc) zu zy).e.chk = if ok then 0 else 130 by unfold En.chk; rw [hoke])
 rw [hoke] at hok
 have hokh := qq hok
 have c1h := qq hc1; have c2h := qq hc2; have c3h := qq hc3; have c4h := qq hc4
 have b1h := qq b1; have b2h := qq b2; have b4h := qq b4; have b8h := qq b8
 rw [EnT.arg_mk]
 clear hw hwk hc1 hc2 hc3 hc4 hu hok b1 b2 b4 b8 hN hM hX hW hnb hmb hxb hwb hus hoke hpl htl
 have hAh := qq (fun (v : World) (h : Below (w.alloc (.cells #[.int .u8 kind, .string name, .int .u64 n, .int .u32 xf, .string xg, .string xb, .slice pa zu.length pc, .slice ta zy.length tc] 34)).heap.size (w.alloc (.cells #[.int .u8 kind, .string name, .int .u64 n, .int .u32 xf, .string xg, .string xb, .slice pa zu.length pc, .slice ta zy.length tc] 34)) v) => A1.pure h)
 have hRh := qq (fun (v : World) (h : Below (w.alloc (.cells #[.int .u8 kind, .string name, .int .u64 n, .int .u32 xf, .string xg, .string xb, .slice pa zu.length pc, .slice ta zy.length tc] 34)).heap.size (w.alloc (.cells #[.int .u8 kind, .string name, .int .u64 n, .int .u32 xf, .string xg, .string xb, .slice pa zu.length pc, .slice ta zy.length tc] 34)) v) => R1.pure h)
 obtain ⟨a0, a1, a2, a3, a4, a5, a6, a7⟩ := A1.a8
 go_enter func27, ntmps27
 by_cases hu0 : u = 0
 ·subst hu0
  have hf := qq (show (EnT.mk kind name n (xf, xg, xb) (.slice pa zu.length pc) (.slice ta zy.length tc) zu zy).e.chk = 130 by rw [hchk.out, hokh.out]; rfl); go_wp2_with (go_at_call 77; refine (hush.out).mono ?_; rintro e w2 ⟨rfl, rfl⟩); go_ret; exact ⟨by rw [hf.out]; rfl, hB1⟩
 have z1 : ((u : Int) == 0) = false := ju.2 (by omega)
 have z2 : ¬ (u : Int) = 0 := by omega
 have hok1 := qq (show ok = (c1 && (c2 && (c3 && (c4 && wk)))) by rw [hokh.out, ju.2 hu0]; rfl)
 clear hu0
 go_upto_region 3 with (go_at_call 77; (with_reducible refine (hush.out).mono ?_); rintro e w2 ⟨rfl, rfl⟩)
 have hb := qz (w.alloc (.cells #[.int .u8 kind, .string name, .int .u64 n, .int .u32 xf, .string xg, .string xb, .slice pa zu.length pc, .slice ta zy.length tc] 34)).heap.size (w.alloc (.cells #[.int .u8 kind, .string name, .int .u64 n, .int .u32 xf, .string xg, .string xb, .slice pa zu.length pc, .slice ta zy.length tc] 34))
 have hsz := qq (show w.heap.size ≤ (w.alloc (.cells #[.int .u8 kind, .string name, .int .u64 n, .int .u32 xf, .string xg, .string xb, .slice pa zu.length pc, .slice ta zy.length tc] 34)).heap.size from hB1.size)
 generalize World.alloc w (.cells #[.int .u8 kind, .string name, .int .u64 n, .int .u32 xf, .string xg, .string xb, .slice pa zu.length pc, .slice ta zy.length tc] 34) = W1 at *
 clear a0 a1 a2 a3 a4 a5 a6 a7 z1 z2
 go_cut [7] from 8 (fun s7 wx => s7 = .bool (!c1) ∧ Below W1.heap.size W1 wx)
 case first =>
  have A := hAh.out _ hb; obtain ⟨a0, a1, a2, a3, a4, a5, a6, a7⟩ := A.a8; have q1 := b1h.out; have q2 := aii q1; have q3 := c1h.out; cases nb
  ·simp only [Bool.not_false] at q2
   rw [qk (by simp)] at q3; by_cases hz : name.size = 0
   ·obtain rfl : name = ⟨#[]⟩ := af5 hz
    obtain rfl : true = c1 := q3; clear hz; go_wp2_with fail; go_meet; exact ⟨rfl, hb⟩
   ·obtain rfl : false = c1 := by rw [← q3]; exact (ju.2 hz).symm
    have g1 : ¬ name.toList = [] := fun e => hz (by rw [← acr, e]; rfl)
    have g2 := aeg (show 0 < name.size by omega); clear hz q3; go_wp2_with fail; go_meet; exact ⟨rfl, hb⟩
  ·simp only [Bool.not_true] at q2
   rw [qw rfl] at q3; have q3h := qq q3; clear q3; cases c1
   all_goals
    go_wp2_with (go_at_call 78; (with_reducible refine (acx _ name).mono ?_); rintro e w2 ⟨he, hB2⟩; rw [q3h.out] at he; subst he; have hb2 := hb.trans (hB2.mono hb.size)); go_meet; exact ⟨rfl, hb2⟩
 case rest =>
 obtain ⟨rfl, hbn⟩ := hcut
 have hb := hbn; clear hbn
 cases c1
 ·skip
  have hf := qq (show (EnT.mk kind name n (xf, xg, xb) (.slice pa zu.length pc) (.slice ta zy.length tc) zu zy).e.chk = 130 by rw [hchk.out, hok1.out]; rfl); exact aet
 have hok2 := qq (show ok = (c2 && (c3 && (c4 && wk))) from hok1.out)
 go_upto_region 4 with fail
 go_cut [7] from 8 (fun s7 wx => s7 = .bool (!c2) ∧ Below W1.heap.size W1 wx)
 case first =>
  have A := hAh.out _ hb; obtain ⟨a0, a1, a2, a3, a4, a5, a6, a7⟩ := A.a8; have q1 := b2h.out; have q2 := aii q1; have q3 := c2h.out; cases mb
  ·simp only [Bool.not_false] at q2
   rw [qk (by simp)] at q3; have q4 : (n != 0) = !c2 := by unfold bne; rw [q3]
   cases c2
   ·simp only [Bool.not_false] at q4
    have q5 : ¬ n = 0 := bne_iff_ne.1 q4; clear q3; go_wp2_with fail; go_meet; exact ⟨rfl, hb⟩
   ·obtain rfl : n = 0 := beq_iff_eq.1 q3
    clear q3 q4; go_wp2_with fail; go_meet; exact ⟨rfl, hb⟩
  ·simp only [Bool.not_true] at q2
   rw [qw rfl] at q3; have q3h := qq q3; clear q3; cases c2
   all_goals
    go_wp2_with (go_at_call 79; (with_reducible refine (agf _ n).mono ?_); rintro e w2 ⟨he, rfl⟩; rw [q3h.out] at he; subst he); go_meet; exact ⟨rfl, hb⟩
 case rest =>
 obtain ⟨rfl, hbn⟩ := hcut
 have hb := hbn; clear hbn
 cases c2
 ·skip
  have hf := qq (show (EnT.mk kind name n (xf, xg, xb) (.slice pa zu.length pc) (.slice ta zy.length tc) zu zy).e.chk = 130 by rw [hchk.out, hok2.out]; rfl); exact aet
 have hok3 := qq (show ok = (c3 && (c4 && wk)) from hok2.out)
 go_upto_region 5 with fail
 go_cut [7] from 8 (fun s7 wx => s7 = .bool (!c3) ∧ Below W1.heap.size W1 wx)
 case first =>
  have A := hAh.out _ hb; obtain ⟨a0, a1, a2, a3, a4, a5, a6, a7⟩ := A.a8; have q1 := b4h.out; have q2 := aii q1; have q3 := c3h.out; cases xB
  ·simp only [Bool.not_false] at q2
   rw [qk (by simp)] at q3; have qX := fun (v : World) => (azs v xf 0 xg xb ⟨#[]⟩ ⟨#[]⟩).trans (by rw [xz, q3])
   clear q3; cases c3
   all_goals
    go_wp2_with fail; go_meet; exact ⟨rfl, hb⟩
  ·simp only [Bool.not_true] at q2
   rw [qw rfl] at q3; have qc := fun (v : World) => ayj v xf xg xb
   simp only [q3] at qc; clear q3; cases c3
   ·simp only [Bool.false_eq_true, if_false] at qc
    exact aju
   ·simp only [if_true] at qc
    exact aju
 case rest =>
 obtain ⟨rfl, hbn⟩ := hcut
 have hb := hbn; clear hbn
 cases c3
 ·skip
  have hf := qq (show (EnT.mk kind name n (xf, xg, xb) (.slice pa zu.length pc) (.slice ta zy.length tc) zu zy).e.chk = 130 by rw [hchk.out, hok3.out]; rfl); exact aet
 have hok4 := qq (show ok = (c4 && wk) from hok3.out)
 go_upto_region 6 with fail
 go_cut [7] from 8 (fun s7 wx => s7 = .bool (!c4) ∧ Below W1.heap.size W1 wx)
 case first =>
  have A := hAh.out _ hb; obtain ⟨a0, a1, a2, a3, a4, a5, a6, a7⟩ := A.a8; have q1 := b8h.out; have q2 := aii q1; have q3 := c4h.out; cases wb
  ·simp only [Bool.not_false] at q2
   rw [Bool.false_or] at q3; by_cases hp : 0 < zu.length
   ·have g1 : (0 : Int) < (zu.length : Int) := by omega
    have g2 : decide ((0 : Int) < (zu.length : Int)) = true := qp g1; have g3 : decide (0 < zu.length) = true := qp hp; obtain rfl : false = c4 := by rw [← q3]; cases zu with | nil => simp at hp | cons x l => rfl
    clear q3 hp; go_wp2_with fail; go_meet; exact ⟨rfl, hb⟩
   ·have g1 : ¬ (0 : Int) < (zu.length : Int) := by omega
    have g2 : decide ((0 : Int) < (zu.length : Int)) = false := qg g1; have g3 : decide (0 < zu.length) = false := qg hp; have g4 : zu.isEmpty = true := by cases zu with | nil => rfl | cons x l => simp at hp
    rw [g4, Bool.true_and] at q3; by_cases ht : 0 < zy.length
    ·have g5 : (0 : Int) < (zy.length : Int) := by omega
     have g6 : decide ((0 : Int) < (zy.length : Int)) = true := qp g5; have g7 : decide (0 < zy.length) = true := qp ht; obtain rfl : false = c4 := by rw [← q3]; cases zy with | nil => simp at ht | cons x l => rfl
     clear q3 hp ht g4; go_wp2_with fail; go_meet; exact ⟨rfl, hb⟩
    ·have g5 : ¬ (0 : Int) < (zy.length : Int) := by omega
     have g6 : decide ((0 : Int) < (zy.length : Int)) = false := qg g5; have g7 : decide (0 < zy.length) = false := qg ht; obtain rfl : true = c4 := by rw [← q3]; cases zy with | nil => rfl | cons x l => simp at ht
     clear q3 hp ht g4; go_wp2_with fail; go_meet; exact ⟨rfl, hb⟩
  ·simp only [Bool.not_true] at q2
   obtain rfl : true = c4 := q3; go_wp2_with fail; go_meet; exact ⟨rfl, hb⟩
 case rest =>
 obtain ⟨rfl, hbn⟩ := hcut
 have hb := hbn; clear hbn
 cases c4
 ·skip
  have hf := qq (show (EnT.mk kind name n (xf, xg, xb) (.slice pa zu.length pc) (.slice ta zy.length tc) zu zy).e.chk = 130 by rw [hchk.out, hok4.out]; rfl); exact aet
 have hok5 := qq (show ok = wk from hok4.out)
 go_upto_region 7 with fail
 have A := hAh.out _ hb
 obtain ⟨a0, a1, a2, a3, a4, a5, a6, a7⟩ := A.a8
 have hw2 := hwh.out _ (hRh.out _ hb) (hT.pure (hB1.trans (hb.mono hsz.out)))
 have hw3 := qq hw2
 have hf := qq (show (EnT.mk kind name n (xf, xg, xb) (.slice pa zu.length pc) (.slice ta zy.length tc) zu zy).e.chk = if wk then 0 else 130 by rw [hchk.out, hok5.out])
 clear hw2
 cases wk
 ·exact alp
 ·exact alp
structure Pt.Fit (p : Pt) : Prop where
 q : p.q.size ≤ 255
 i0 : 0 ≤ p.id
 i1 : p.id < 18446744073709551616
 c : p.pr.chk = 0
 b : p.pr.bytes.length ≤ 8192
 d : p.body.size ≤ 4096
theorem Pt.fit {p : Pt} {num : Bool} (h : Pt.okB num p = true) (h0 : 0 ≤ p.id) (h1 : p.id < 18446744073709551616) : p.Fit := by
 unfold Pt.okB Pr.smallB at h
 simp only [jj, qm] at h
 exact ⟨by have := bbn h.1.1.1.1; omega, h0, h1, h.2.1, h.2.2, h.1.2⟩
theorem Pt.Fit.len {p : Pt} (h : p.Fit) : p.bytes.length ≤ 12700 := by
 have h1 := h.q; have h2 := h.b; have h3 := h.d
 unfold Pt.bytes
 simp only [jz, aao, bbo, acj]
 omega
end Go.Proofs.YtgnaifhmcllnlaaGreatDoor
