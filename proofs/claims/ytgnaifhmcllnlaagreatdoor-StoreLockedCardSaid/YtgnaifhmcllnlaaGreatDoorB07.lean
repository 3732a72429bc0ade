/- Entries: work, Check, the program's. Conditions: utf8's tables are laid. Written by gen_enC.py. (Texts joined.) -/
import Derived.Test.YtgnaifhmcllnlaaGreatDoorB06
set_option maxRecDepth 100000
set_option maxHeartbeats 12800000
set_option linter.unusedSimpArgs false
set_option linter.unusedVariables false
namespace Go.Proofs.YtgnaifhmcllnlaaGreatDoor
open Go.RowKit Tryz
theorem awt {f : Int → List UInt8 → Option (V × Int × List UInt8)} {m : Bool} {q : Nat} {left : Int} {b : List UInt8} {ks : List ByteArray} {l : List V} {z : List ByteArray × List V × Int × List UInt8} (h : asa ks l (abk f m (q + 1) left b) = some z) :
 ∃ s b' x E D, (if m then gT 1 255 b = some (s, b') else b = b') ∧ f left b' = some (x, E, D) ∧ asa (if m then ks ++ [s] else ks) (l ++ [x]) (abk f m q E D) = some z := by
 cases hz : abk f m (q + 1) left b with
 | none => rw [hz] at h; cases h
 | some y =>
  unfold abk at hz; obtain ⟨⟨s, b'⟩, A, G⟩ := aah hz; obtain ⟨⟨x, E, D⟩, F, -⟩ := aah G; refine ⟨s, b', x, E, D, ?_, F, ?_⟩
  ·cases m
   ·simp only [Bool.false_eq_true, if_false, jy, jm] at A ⊢; exact A.2
   ·simpa using A
  ·cases m
   ·simp only [Bool.false_eq_true, if_false, jy, jm] at A ⊢
    obtain ⟨-, rfl⟩ := A; rw [← aq5 F]; exact h
   ·simp only [if_true] at A ⊢
    rw [← av4 A F]; exact h
theorem aer {P : Prop} (h : P := by
 have r0 := hO3.cell aak L.length (by simp) 0 _ (by rw [List.getElem_append_right (qj _)]; simp [ac6]; rfl); have r1 := hO3.cell aak L.length (by simp) 1 _ (by rw [List.getElem_append_right (qj _)]; simp [ac6]; rfl); have r2 := hO3.cell aak L.length (by simp) 2 _ (by rw [List.getElem_append_right (qj _)]; simp [ac6]; rfl); have r3 := hO3.cell aak L.length (by simp) 3 _ (by rw [List.getElem_append_right (qj _)]; simp [ac6]; rfl); have r4 := hO3.cell aak L.length (by simp) 4 _ (by rw [List.getElem_append_right (qj _)]; simp [ac6]; rfl); have rr0 := hO4.cell aak L.length (by simp) 0 _ (by rw [List.getElem_append_right (qj _)]; simp [ac6]; rfl); have rr1 := hO4.cell aak L.length (by simp) 1 _ (by rw [List.getElem_append_right (qj _)]; simp [ac6]; rfl); have rr2 := hO4.cell aak L.length (by simp) 2 _ (by rw [List.getElem_append_right (qj _)]; simp [ac6]; rfl); have rr3 := hO4.cell aak L.length (by simp) 3 _ (by rw [List.getElem_append_right (qj _)]; simp [ac6]; rfl); have rr4 := hO4.cell aak L.length (by simp) 4 _ (by rw [List.getElem_append_right (qj _)]; simp [ac6]; rfl)
 rw [Nat.add_zero] at r0 rr0
 have z0 := hO3.frozen (L.length * 5); have z1 := hO3.frozen (L.length * 5 + 1); have z2 := hO3.frozen (L.length * 5 + 2); have z3 := hO3.frozen (L.length * 5 + 3); have z4 := hO3.frozen (L.length * 5 + 4); have zz0 := hO4.frozen (L.length * 5); have zz1 := hO4.frozen (L.length * 5 + 1); have zz2 := hO4.frozen (L.length * 5 + 2); have zz3 := hO4.frozen (L.length * 5 + 3); have zz4 := hO4.frozen (L.length * 5 + 4)
 have my0 := hx3.at 4 rfl; have mz0 := hx3.frozen 4
 have hl1x : (L.length : Int) < (L.length : Int) + 1 := by omega
 have my := hx4.at 4 rfl; have mz := hx4.frozen 4
 simp only [VT.k, VT.n, VT.s, VT.kv, VT.lv] at my mz
 refine hK.out _ _ trivial (fun zg => ?_)
 clear hK K
 (try simp only [Act.put, lsT, lsZ, lsS])
 refine tkH 11 zg ?_
 refine tkH 13 zg ?_
 refine tkH 14 zg ?_
 refine wpAnyH_ready (rs := [12, 15]) (by kernel_rfl) (by simp) ?_
 refine (AllReadyH.cons rfl (fun K hK => ?_) (AllReadyH.cons rfl (fun K hK => ?_) AllReadyH.nil))
 ·go_simp
  refine hK.out _ _ trivial (fun zg => ?_); clear hK K; (try simp only [Act.put, lsT, lsZ, lsS]); refine aai 15 rfl (fun K hK => ?_); go_simp; refine hK.out _ _ trivial (fun zg => ?_); clear hK K; (try simp only [Act.put, lsT, lsZ, lsS]); refine wpAnyH_done (by kernel_rfl) ?_ _; go_wp2; go_roundw
  case rel => exact ⟨j + 1, _, _, _, _, le3, b2', by omega, by go_num, qq hM5, qq ⟨by have := hlen.out.1; simp; omega, by have := hkl2.out; omega⟩, hl0', hl1', hlb, qq (by rw [List.map_append, ← hT2.out, ← htvh.out]; rfl)⟩
  case measure => simp [intOf]; omega
 ·go_simp
  refine hK.out _ _ trivial (fun zg => ?_); clear hK K; (try simp only [Act.put, lsT, lsZ, lsS]); refine aai 12 rfl (fun K hK => ?_); go_simp; refine hK.out _ _ trivial (fun zg => ?_); clear hK K; (try simp only [Act.put, lsT, lsZ, lsS]); refine wpAnyH_done (by kernel_rfl) ?_ _; go_wp2; go_roundw
  case rel => exact ⟨j + 1, _, _, _, _, le3, b2', by omega, by go_num, qq hM6, qq ⟨by have := hlen.out.1; simp; omega, by have := hkl2.out; omega⟩, hl0', hl1', hlb, qq (by rw [List.map_append, ← hT2.out, ← htvh.out]; rfl)⟩
  case measure => simp [intOf]; omega) : P := h
theorem aho {P : Prop} (h : P := by
 refine hK.out _ _ trivial (fun zg => ?_)
 clear hK K
 (try simp only [Act.put, lsT, lsZ, lsS])
 refine aai 11 rfl (fun K hK => ?_)
 refine abe rfl (af6 (base := w.heap.size) rfl (.tmp 46) (.tmp 52) 53 9 rfl am3 ac7 ala _ ks rfl hM2.ko w1.heap.size 1 s rfl (fun j u hu => (bs.cell j).trans hu) (by have := hkl.out; omega) (by have := hkl.out; unfold maxLen; omega) (jk hM1.up.size (by simp)) ?_)
 intro g cap w3 hO3 hgr3 hf3
 refine ⟨rfl, ?_⟩
 obtain ⟨hx3, hM3⟩ := hM2.key hO3 hgr3 hf3
 have my := hx3.at 3 rfl; have mz := hx3.frozen 3
 refine hK.out _ _ trivial (fun zg => ?_)
 clear hK K
 (try simp only [Act.put, lsT, lsZ, lsS])
 refine tkH 12 zg ?_
 refine tkH 13 zg ?_
 refine aai 14 rfl (fun K hK => ?_)
 go_simp
 refine hK.out _ _ trivial (fun zg => ?_)
 clear hK K
 (try simp only [Act.put, lsT, lsZ, lsS])
 refine wpAnyH_done (by kernel_rfl) ?_ _
 go_wp2_with fail
 go_meet
 exact ⟨_, hM3⟩) : P := h
theorem ajq {P : Prop} (h : P := by
 refine aai 7 rfl (fun K hK => ?_)
 go_simp
 go_at_call 200
 refine (hrd.out _ hM1.pr).mono ?_
 rintro e w1 ⟨t, he, htv, htR, p1, hu1⟩
 have hM2 := hM1.moved p1 hu1 (fun i e => e)
 have ht1 := hM1.tree htR
 obtain ⟨tk, tn, ts, ka, kc, la, lc, tks, tl, rfl, -, -, -, -⟩ := htR.open
 rw [VT.arg_mk] at he
 subst he
 have htvh := qq htv
 clear htv
 have mx2 := hM2.x.at 4 rfl; have mq2 := hM2.pr.q.at 0 rfl
 refine hK.out _ _ trivial (fun zg => ?_)
 clear hK K
 (try simp only [Act.put, lsT, lsZ, lsS])
 refine aai 10 rfl (fun K hK => ?_)
 have bs1 := bs.upd hu1 (fun e => by have h1 := hM0.lt; have h2 := hM0.xl; have h3 := hM0.up.size; have h4 := hM0.pr.vq; unfold Two at e; omega)
 refine abe rfl (aaq (base := w.heap.size) rfl (.tmp 59) (.tmp 65) 54 56 rfl aej aak _ L rfl hM2.lo _ 1 VT.zero (by simp [ac6, VT.zero, VT.k, VT.n, VT.s, VT.kv, VT.lv, Value.oneCell']) rfl (fun j u hu => (bs1.cell j).trans hu) (by have := hLl.out; omega) (by have := hLl.out; unfold maxLen; omega) hM2.up.size ?_)
 intro g cap w3 hO3 hgr3 hf3
 refine ⟨rfl, ?_⟩
 obtain ⟨hx3, hx4, hM5⟩ := hM2.elem hO3 hgr3 hf3 ht1
 obtain ⟨hO4, hM6⟩ := hM2.elem2 hO3 hgr3 hf3 ht1
 exact aer) : P := h
theorem ajr {P : Prop} (h : P := by
 refine aai 9 rfl (fun K hK => ?_)
 go_simp
 have hM2 := hM1.alloc (.cells #[.int .u8 0, .int .u64 0, .string ⟨#[]⟩, .slice none 0 0, .slice none 0 0] 56)
 have bs := Blk.new w1 [.int .u8 0, .int .u64 0, .string ⟨#[]⟩, .slice none 0 0, .slice none 0 0] 56
 have ht2 := ht1.pure ((qz w1.heap.size w1).alloc (qj _) (.cells #[.int .u8 0, .int .u64 0, .string ⟨#[]⟩, .slice none 0 0, .slice none 0 0] 56))
 have mx2 := hM2.x.at 4 rfl; have mq2 := hM2.pr.q.at 0 rfl
 refine hK.out _ _ trivial (fun zg => ?_)
 clear hK K
 (try simp only [Act.put, lsT, lsZ, lsS])
 refine aai 10 rfl (fun K hK => ?_)
 refine abe rfl (aaq (base := w.heap.size) rfl (.tmp 59) (.tmp 65) 54 56 rfl aej aak _ L rfl hM2.lo _ 1 VT.zero (by simp [ac6, VT.zero, VT.k, VT.n, VT.s, VT.kv, VT.lv, Value.oneCell']) rfl (fun j u hu => (bs.cell j).trans hu) (by have := hLl.out; omega) (by have := hLl.out; unfold maxLen; omega) hM2.up.size ?_)
 intro g cap w3 hO3 hgr3 hf3
 refine ⟨rfl, ?_⟩
 obtain ⟨hx3, hx4, hM5⟩ := hM2.elem hO3 hgr3 hf3 ht2
 obtain ⟨hO4, hM6⟩ := hM2.elem2 hO3 hgr3 hf3 ht2
 exact aer) : P := h
theorem ajs {P : Prop} (h : P := by
 go_simp
 refine hK.out _ _ trivial (fun zg => ?_)
 clear hK K
 (try simp only [Act.put, lsT, lsZ, lsS])
 refine aai 9 rfl (fun K hK => ?_)
 go_simp
 go_at_call 197
 refine (htx.out _ hM0.pr).mono ?_
 rintro e w1 ⟨rfl, p1, hu1⟩
 have hM1 := hM0.moved p1 hu1 (fun i e => Or.inr e)
 have mx1 := hM1.x.at 3 rfl; have mq1 := hM1.pr.q.at 0 rfl
 refine hK.out _ _ trivial (fun zg => ?_)
 clear hK K
 (try simp only [Act.put, lsT, lsZ, lsS])
 refine aai 10 rfl (fun K hK => ?_)
 go_simp
 have hM2 := hM1.alloc (.cells #[.string s] 9)
 have bs := Blk.new w1 [.string s] 9
 have mx2 := hM2.x.at 3 rfl; have mq2 := hM2.pr.q.at 0 rfl
 exact aho) : P := h
theorem at2 (d : Nat) (hR : apb d) : at1 d := by
 intro w qb H F xb left dp b k ks0 l0 le2 r0 h hqx Y hk hd hd5 hl0 hl1 hL D
 unfold rdM at D
 obtain ⟨⟨size, G⟩, ad, D⟩ := aah D
 dsimp only at D
 obtain ⟨⟨n, W⟩, ah, D⟩ := aah D
 dsimp only at D
 by_cases hc : size ≤ G.length ∧ n < 200
 rotate_left 1
 ·rw [qk hc] at D; cases D
 rw [qw hc] at D
 obtain ⟨⟨bu, l1, bl, b4⟩, au, D⟩ := aah D
 dsimp only at D
 by_cases z : G.length - b4.length = size
 rotate_left 1
 ·rw [qk z] at D; cases D
 rw [qw z] at D
 simp only [jy, jm] at D
 obtain ⟨rfl, rfl, rfl, rfl⟩ := D
 have b0 : 0 ≤ dp := by omega
 have bx : dp ≤ 6 := by omega
 have c0 := h.q.at 0 rfl
 have ut : ∀ a b : World, Upd (acu F) a b → Upd (aop qb F xb) a b := fun a b h => h.mono (fun k hk _ => Or.inr (Or.inl hk))
 have ar := qq ut
 clear ut
 obtain ⟨ba, an, -⟩ := aks ad
 have U : Big G.length := hL.mono an
 have wz : IntKind.u64.wrap (G.length : Int) = (G.length : Int) := bau _ (by omega) (by have := U.le; omega)
 have br := qq ad
 obtain ⟨bw, ae, -⟩ := aks ah
 have av : Big W.length := U.mono ae
 have bo := qq ah
 obtain ⟨cf, cb⟩ := hc
 have ce : decide ((n : Int) < 200) = true := qp (by omega)
 have bc := qq ae
 have bn := Y.lt
 have b8 : IntKind.i64.wrap (dp + 1) = dp + 1 := wrap_i64 _ (by omega) (by omega)
 have bq := qq hR; have ao := qq au; have bb := qq z; have bk := qq hk
 clear ad ah hR ae an ba au z hk
 go_enter func211, ntmps211
 go_wp2_with (first | (go_at_call 169; (with_reducible refine (agy _ qb H F left b 4 size 4 G h rfl (by unfold Wd; omega) br.out hL).mono ?_); rintro e w1 ⟨rfl, p1, hu1⟩; have e1 := p1.q.at 0 rfl) | (go_at_call 169; (with_reducible refine (agy _ qb H F left G 4 n 4 W p1 rfl (by unfold Wd; omega) bo.out U).mono ?_); rintro e w2 ⟨rfl, p2, ai⟩; have e2 := p2.q.at 0 rfl) | (go_at_call 171; (with_reducible refine (ba9 _ qb H F left G false p1).mono ?_); rintro e _ ⟨rfl, rfl⟩) | (go_at_call 201; (with_reducible refine (aih _ qb H F left W p2).mono ?_); rintro e _ ⟨rfl, rfl⟩))
 have hM2 := qq (MSt.start (w0 := w) p2 ((Y.upd hu1 (fun e => by have := h.vq; unfold acu at e; omega)).upd ai (fun e => by have := h.vq; unfold acu at e; omega)) ((ar.out _ _ hu1).trans (ar.out _ _ ai) (fun _ h _ => h)) hqx bn)
 clear Y h p1 p2 hu1 ai e1 e2 c0
 go_loopw [35] (fun aj wr => ∃ (j : Nat) (kv lv : Value) (ks : List ByteArray) (L : List VT) (I : Int) (E : List UInt8), j ≤ n ∧ aj = .int .u64 j ∧ Hid (MSt w qb H F xb k wr I E false kv lv ks L) ∧ Hid (L.length = j ∧ ks.length ≤ j) ∧ 0 ≤ I ∧ I ≤ 200 ∧ Hid (E.length ≤ W.length) ∧ Hid (asa ks (L.map VT.v) (abk (rdP d) (k == 168) (n - j) I E) = some (bu, l1, bl, b4))) (fun aj _ => n - (intOf aj).toNat)
 case atStart => exact ⟨0, _, _, [], [], left, W, by omega, rfl, hM2, qq ⟨rfl, qj _⟩, hl0, hl1, qq (qj _), qq (by rw [List.map_nil, av3]; exact ao.out)⟩
 case round =>
  clear hM2; obtain ⟨j, kv, lv, ks, L, I, E, hj, rfl, al, hlen, bd, az, ab, hT⟩ := hrel; have A := al.out; obtain ⟨ka, kc, rfl⟩ := aap A.ko; obtain ⟨la, lc, rfl⟩ := aap A.lo; have am : Big E.length := av.mono ab.out; have x0 := A.x.at 0 rfl; by_cases b5 : j < n
  ·have h1 : (j : Int) < (n : Int) := by omega
   have hkl := qq (show ks.length < 200 by have := hlen.out.2; omega); have hLl := qq (show L.length < 200 by have := hlen.out.1; omega); have ay : n - j = (n - (j + 1)) + 1 := by omega
   have ak := hT.out; rw [ay] at ak; obtain ⟨s, b', x, le3, b2', J, aa, af⟩ := awt ak; obtain ⟨ac, Z⟩ := qx (if (k == 168) = true then ks ++ [s] else ks); rw [Z] at af
   have aq : b'.length ≤ E.length := by
    cases hm : (k == 168)
    ·rw [hm] at J; simp at J; rw [J]; exact qj _
    ·rw [hm] at J; exact bco J
   have bm : Big b'.length := am.mono aq; have hkl2 := qq (show ac.length ≤ j + 1 by rw [← Z]; have := hlen.out.2; split <;> simp <;> omega); have aw := ap4 _ _ _ _ _ _ aa; have hlb := qq (show b2'.length ≤ W.length by have h1 := asw aa; have h2 := ab.out; omega); have hl1' : le3 ≤ 200 := by omega
   have hl0' : 0 ≤ le3 := aw.1; have hrd := qq (fun (u : World) (p : PR u qb H F I b' false) => bq.out u qb H F I (dp + 1) b' x le3 b2' p (by omega) (by omega) bd az bm aa); have hT2 := qq af; have a1 := qq J; have bf := qq Z; clear ak af J Z aa aw aq ay hT; go_upto_if 41 with fail; go_cut [] from 42 to 55 (fun wc => av6 w qb H F xb k I b' false (.slice la L.length lc) ac L wc)
   case first =>
    have M := a1.out; have O := bf.out; rcases bk.out with rfl | rfl
    ·have M : gT 1 255 E = some (s, b') := M
     have O : ks ++ [s] = ac := O; subst O; have htx := qq (fun (u : World) (p : PR u qb H F I E false) => ai4 u qb H F I E 1 255 1 255 s b' p rfl rfl (by omega) (by omega) M am); clear M; go_upto_region 7 with fail; have hM0 := A.drew; have bt := A.x.at 3 rfl; have bi := A.pr.q.at 0 rfl; have bp := hM0.x.at 3 rfl; have bh := hM0.pr.q.at 0 rfl; refine wp_region_held_drew (S := fun _ => True) (by kernel_rfl) trivial (fun zg => ?_); refine tkH 0 zg ?_; refine tkH 1 zg ?_; refine tkH 2 zg ?_; refine tkH 3 zg ?_; refine tkH 5 zg ?_; refine tkH 6 zg ?_; refine tkH 7 zg ?_; refine wpAnyH_ready (rs := [4, 8]) (by kernel_rfl) (by simp) ?_; refine (AllReadyH.cons rfl (fun K hK => ?_) (AllReadyH.cons rfl (fun K hK => ?_) AllReadyH.nil))
     ·go_simp
      refine hK.out _ _ trivial (fun zg => ?_); clear hK K; (try simp only [Act.put, lsT, lsZ, lsS]); refine aai 8 rfl (fun K hK => ?_); exact ajs
     ·go_simp
      refine hK.out _ _ trivial (fun zg => ?_); clear hK K; (try simp only [Act.put, lsT, lsZ, lsS]); refine wpAnyH_ready (rs := [4, 9]) (by kernel_rfl) (by simp) ?_; refine (AllReadyH.cons rfl (fun K hK => ?_) (AllReadyH.cons rfl (fun K hK => ?_) AllReadyH.nil))
      ·exact ajs
      ·go_simp
       go_at_call 197; refine (htx.out _ hM0.pr).mono ?_; rintro e w1 ⟨rfl, p1, hu1⟩; have hM1 := hM0.moved p1 hu1 (fun i e => Or.inr e); have mx1 := hM1.x.at 3 rfl; have mq1 := hM1.pr.q.at 0 rfl; refine hK.out _ _ trivial (fun zg => ?_); clear hK K; (try simp only [Act.put, lsT, lsZ, lsS]); refine wpAnyH_ready (rs := [4, 10]) (by kernel_rfl) (by simp) ?_; refine (AllReadyH.cons rfl (fun K hK => ?_) (AllReadyH.cons rfl (fun K hK => ?_) AllReadyH.nil))
       ·go_simp
        refine hK.out _ _ trivial (fun zg => ?_); clear hK K; (try simp only [Act.put, lsT, lsZ, lsS]); refine aai 10 rfl (fun K hK => ?_); go_simp; have hM2 := hM1.alloc (.cells #[.string s] 9); have bs := Blk.new w1 [.string s] 9; have mx2 := hM2.x.at 3 rfl; have mq2 := hM2.pr.q.at 0 rfl; exact aho
       ·go_simp
        have hM2 := hM1.alloc (.cells #[.string s] 9); have bs := Blk.new w1 [.string s] 9; have mx2 := hM2.x.at 3 rfl; have mq2 := hM2.pr.q.at 0 rfl; refine hK.out _ _ trivial (fun zg => ?_); clear hK K; (try simp only [Act.put, lsT, lsZ, lsS]); refine aai 4 rfl (fun K hK => ?_); go_simp; exact aho
    ·have M : E = b' := M
     have O : ks = ac := O; subst M; subst O; go_wp2_with fail; go_meet; exact ⟨_, A⟩
   case rest =>
   obtain ⟨b1, N⟩ := hcut; clear A al x0; obtain ⟨b7, cg, rfl⟩ := aap N.ko; go_upto_region 8 with fail; have hM0 := N.drew; have bt := N.x.at 4 rfl; have bi := N.pr.q.at 0 rfl; have bp := hM0.x.at 4 rfl; have bh := hM0.pr.q.at 0 rfl; refine wp_region_held_drew (S := fun _ => True) (by kernel_rfl) trivial (fun zg => ?_); refine tkH 0 zg ?_; refine tkH 1 zg ?_; refine tkH 2 zg ?_; refine tkH 4 zg ?_; refine tkH 5 zg ?_; refine tkH 6 zg ?_; refine wpAnyH_ready (rs := [3, 7, 9]) (by kernel_rfl) (by simp) ?_; refine (AllReadyH.cons rfl (fun K hK => ?_) (AllReadyH.cons rfl (fun K hK => ?_) (AllReadyH.cons rfl (fun K hK => ?_) AllReadyH.nil)))
   ·go_simp
    refine hK.out _ _ trivial (fun zg => ?_); clear hK K; (try simp only [Act.put, lsT, lsZ, lsS]); refine tkH 8 zg ?_; refine wpAnyH_ready (rs := [7, 9]) (by kernel_rfl) (by simp) ?_; refine (AllReadyH.cons rfl (fun K hK => ?_) (AllReadyH.cons rfl (fun K hK => ?_) AllReadyH.nil))
    ·go_simp
     go_at_call 200; refine (hrd.out _ hM0.pr).mono ?_; rintro e w1 ⟨t, he, htv, htR, p1, hu1⟩; have hM1 := hM0.moved p1 hu1 (fun i e => e); have ht1 := hM0.tree htR; obtain ⟨tk, tn, ts, ka, kc, la, lc, tks, tl, rfl, -, -, -, -⟩ := htR.open; rw [VT.arg_mk] at he; subst he; have htvh := qq htv; clear htv; have mx1 := hM1.x.at 4 rfl; have mq1 := hM1.pr.q.at 0 rfl; refine hK.out _ _ trivial (fun zg => ?_); clear hK K; (try simp only [Act.put, lsT, lsZ, lsS]); exact ajr
    ·go_simp
     have hM1 := hM0.alloc (.cells #[.int .u8 0, .int .u64 0, .string ⟨#[]⟩, .slice none 0 0, .slice none 0 0] 56); have bs := Blk.new wc.drew [.int .u8 0, .int .u64 0, .string ⟨#[]⟩, .slice none 0 0, .slice none 0 0] 56; have X := N.alloc (.cells #[.int .u8 0, .int .u64 0, .string ⟨#[]⟩, .slice none 0 0, .slice none 0 0] 56); have ma := X.x.at 4 rfl; have mb := X.pr.q.at 0 rfl; have mx1 := hM1.x.at 4 rfl; have mq1 := hM1.pr.q.at 0 rfl; refine hK.out _ _ trivial (fun zg => ?_); clear hK K; (try simp only [Act.put, lsT, lsZ, lsS]); exact ajq
   ·go_simp
    go_at_call 200; refine (hrd.out _ hM0.pr).mono ?_; rintro e w1 ⟨t, he, htv, htR, p1, hu1⟩; have hM1 := hM0.moved p1 hu1 (fun i e => e); have ht1 := hM0.tree htR; obtain ⟨tk, tn, ts, ka, kc, la, lc, tks, tl, rfl, -, -, -, -⟩ := htR.open; rw [VT.arg_mk] at he; subst he; have htvh := qq htv; clear htv; have mx1 := hM1.x.at 4 rfl; have mq1 := hM1.pr.q.at 0 rfl; refine hK.out _ _ trivial (fun zg => ?_); clear hK K; (try simp only [Act.put, lsT, lsZ, lsS]); refine wpAnyH_ready (rs := [3, 9]) (by kernel_rfl) (by simp) ?_; refine (AllReadyH.cons rfl (fun K hK => ?_) (AllReadyH.cons rfl (fun K hK => ?_) AllReadyH.nil))
    ·go_simp
     refine hK.out _ _ trivial (fun zg => ?_); clear hK K; (try simp only [Act.put, lsT, lsZ, lsS]); refine tkH 8 zg ?_; exact ajr
    ·go_simp
     have hM2 := hM1.alloc (.cells #[.int .u8 0, .int .u64 0, .string ⟨#[]⟩, .slice none 0 0, .slice none 0 0] 56); have bs := Blk.new w1 [.int .u8 0, .int .u64 0, .string ⟨#[]⟩, .slice none 0 0, .slice none 0 0] 56; have ht2 := ht1.pure ((qz w1.heap.size w1).alloc (qj _) (.cells #[.int .u8 0, .int .u64 0, .string ⟨#[]⟩, .slice none 0 0, .slice none 0 0] 56)); have mx2 := hM2.x.at 4 rfl; have mq2 := hM2.pr.q.at 0 rfl; refine hK.out _ _ trivial (fun zg => ?_); clear hK K; (try simp only [Act.put, lsT, lsZ, lsS]); refine aai 3 rfl (fun K hK => ?_); go_simp; refine hK.out _ _ trivial (fun zg => ?_); clear hK K; (try simp only [Act.put, lsT, lsZ, lsS]); refine tkH 8 zg ?_; refine aai 10 rfl (fun K hK => ?_); refine abe rfl (aaq (base := w.heap.size) rfl (.tmp 59) (.tmp 65) 54 56 rfl aej aak _ L rfl hM2.lo _ 1 VT.zero (by simp [ac6, VT.zero, VT.k, VT.n, VT.s, VT.kv, VT.lv, Value.oneCell']) rfl (fun j u hu => (bs.cell j).trans hu) (by have := hLl.out; omega) (by have := hLl.out; unfold maxLen; omega) hM2.up.size ?_); intro g cap w3 hO3 hgr3 hf3; refine ⟨rfl, ?_⟩; obtain ⟨hx3, hx4, hM5⟩ := hM2.elem hO3 hgr3 hf3 ht2; obtain ⟨hO4, hM6⟩ := hM2.elem2 hO3 hgr3 hf3 ht2; exact aer
   ·go_simp
    have hM1 := hM0.alloc (.cells #[.int .u8 0, .int .u64 0, .string ⟨#[]⟩, .slice none 0 0, .slice none 0 0] 56); have bs := Blk.new wc.drew [.int .u8 0, .int .u64 0, .string ⟨#[]⟩, .slice none 0 0, .slice none 0 0] 56; have X := N.alloc (.cells #[.int .u8 0, .int .u64 0, .string ⟨#[]⟩, .slice none 0 0, .slice none 0 0] 56); have ma := X.x.at 4 rfl; have mb := X.pr.q.at 0 rfl; have mx1 := hM1.x.at 4 rfl; have mq1 := hM1.pr.q.at 0 rfl; refine hK.out _ _ trivial (fun zg => ?_); clear hK K; (try simp only [Act.put, lsT, lsZ, lsS]); refine wpAnyH_ready (rs := [3, 7]) (by kernel_rfl) (by simp) ?_; refine (AllReadyH.cons rfl (fun K hK => ?_) (AllReadyH.cons rfl (fun K hK => ?_) AllReadyH.nil))
    ·go_simp
     refine hK.out _ _ trivial (fun zg => ?_); clear hK K; (try simp only [Act.put, lsT, lsZ, lsS]); refine tkH 8 zg ?_; exact ajq
    ·go_simp
     go_at_call 200; refine (hrd.out _ hM1.pr).mono ?_; rintro e w1 ⟨t, he, htv, htR, p1, hu1⟩; have hM2 := hM1.moved p1 hu1 (fun i e => e); have ht1 := hM1.tree htR; obtain ⟨tk, tn, ts, ka, kc, la, lc, tks, tl, rfl, -, -, -, -⟩ := htR.open; rw [VT.arg_mk] at he; subst he; have htvh := qq htv; clear htv; have mx2 := hM2.x.at 4 rfl; have mq2 := hM2.pr.q.at 0 rfl; refine hK.out _ _ trivial (fun zg => ?_); clear hK K; (try simp only [Act.put, lsT, lsZ, lsS]); refine aai 3 rfl (fun K hK => ?_); go_simp; refine hK.out _ _ trivial (fun zg => ?_); clear hK K; (try simp only [Act.put, lsT, lsZ, lsS]); refine tkH 8 zg ?_; refine aai 10 rfl (fun K hK => ?_); have bs1 := bs.upd hu1 (fun e => by have h1 := hM0.lt; have h2 := hM0.xl; have h3 := hM0.up.size; have h4 := hM0.pr.vq; unfold Two at e; omega); refine abe rfl (aaq (base := w.heap.size) rfl (.tmp 59) (.tmp 65) 54 56 rfl aej aak _ L rfl hM2.lo _ 1 VT.zero (by simp [ac6, VT.zero, VT.k, VT.n, VT.s, VT.kv, VT.lv, Value.oneCell']) rfl (fun j u hu => (bs1.cell j).trans hu) (by have := hLl.out; omega) (by have := hLl.out; unfold maxLen; omega) hM2.up.size ?_); intro g cap w3 hO3 hgr3 hf3; refine ⟨rfl, ?_⟩; obtain ⟨hx3, hx4, hM5⟩ := hM2.elem hO3 hgr3 hf3 ht1; obtain ⟨hO4, hM6⟩ := hM2.elem2 hO3 hgr3 hf3 ht1; exact aer
  ·obtain rfl : j = n := by omega
   have ag := hT.out; rw [Nat.sub_self, av5] at ag; simp only [jy, jm] at ag; obtain ⟨rfl, rfl, rfl, rfl⟩ := ag; have q0 := A.pr.q.at 0 rfl; have ca := ab.out; have cd := bc.out; have wy : IntKind.u64.wrap ((G.length : Int) - (E.length : Int)) = (G.length : Int) - (E.length : Int) := bau _ (by omega) (by have := U.le; omega); have ax := qq A.pr; have bg := qq A; have a0 := qq U.le; clear A al ab hT ao U av am; have cc : ((G.length : Int) - (E.length : Int) == (size : Int)) = true := by rw [beq_iff_eq]; have := bb.out; omega
   have b6 : (E.length : Int) ≤ (G.length : Int) := by omega
   have b9 : (G.length : Int) ≤ 70368744177664 := by have := a0.out; omega
   go_wp2_with (first | (go_at_call 171; (with_reducible refine (ba9 _ qb H F I E false ax.out).mono ?_); rintro e _ ⟨rfl, rfl⟩) | (go_at_call 201; (with_reducible refine (aih _ qb H F I E ax.out).mono ?_); rintro e _ ⟨rfl, rfl⟩)); go_end0; have A := bg.out; exact ⟨_, _, L, rfl, A.x, A.ko, A.lo, rfl, fun x Y => (A.rd x Y).weaken (fun i _ hi => hi.1), A.pr, A.up⟩
theorem alo : ∀ d, apb d
 | 0 => ano 0 (fun A h => by omega)
 | d + 1 => ano (d + 1) (fun A h => by
  obtain rfl : d = A := by omega
  exact at2 d (alo d))
theorem aed {P : Prop} (h : P := by
 (first | with_reducible exact ⟨k0, k1, k2, k3, k4, k5⟩ | with_reducible exact ⟨l0, l1, l2, l3, l4, l5⟩ | with_reducible exact ⟨m0, m1, m2, m3, m4, m5⟩ | with_reducible exact ⟨o0, o1, o2, o3, o4, o5⟩ | with_reducible exact ⟨aa0, aa1, aa2, aa3, aa4, aa5⟩ | with_reducible exact ⟨ab0, ab1, ab2, ab3, ab4, ab5⟩ | with_reducible exact ⟨ac0, ac1, ac2, ac3, ac4, ac5⟩)) : P := h
theorem awu (w : World) (v : Value) (L : List UInt8) (h : Slc aax 1 w v L) (hL : Big L.length) (hT : Tb w) (x : V) (left : Int) (r : List UInt8) (hx : rdP 6 200 L = some (x, left, r)) (hc : x.chk = 0) :
 Calls prog 172 #[v] w (atc w (some (x, L.length - r.length))) := by
 have cg : ∀ (fn : Fn) (first ao : Array Value) (w : World), (Instr.makeFunc fn first ao).run prog w = .ok (.func fn first ao) w := fun _ _ _ _ => rfl
 have aa : Below w.heap.size w (((w.alloc (.cells #[.int .u8 0, .int .u64 0, .string ⟨#[]⟩, .slice none 0 0, .slice none 0 0] 56)).alloc (.cells #[.int .i64 0] 3)).alloc (.cells #[.int .i64 0] 41)) := (((qz _ _).alloc (qj _) _).alloc (by simp) _).alloc (by simp; omega) _
 have aq : w.heap.size + 3 ≤ (((w.alloc (.cells #[.int .u8 0, .int .u64 0, .string ⟨#[]⟩, .slice none 0 0, .slice none 0 0] 56)).alloc (.cells #[.int .i64 0] 3)).alloc (.cells #[.int .i64 0] 41)).heap.size := by simp
 have v3 : Blk (((w.alloc (.cells #[.int .u8 0, .int .u64 0, .string ⟨#[]⟩, .slice none 0 0, .slice none 0 0] 56)).alloc (.cells #[.int .i64 0] 3)).alloc (.cells #[.int .i64 0] 41)) (w.heap.size) [.int .u8 0, .int .u64 0, .string ⟨#[]⟩, .slice none 0 0, .slice none 0 0] := ((Blk.new w [.int .u8 0, .int .u64 0, .string ⟨#[]⟩, .slice none 0 0, .slice none 0 0] 56).alloc (.cells #[.int .i64 0] 3)).alloc (.cells #[.int .i64 0] 41)
 have n3 : Blk (((w.alloc (.cells #[.int .u8 0, .int .u64 0, .string ⟨#[]⟩, .slice none 0 0, .slice none 0 0] 56)).alloc (.cells #[.int .i64 0] 3)).alloc (.cells #[.int .i64 0] 41)) (w.heap.size + 1) [.int .i64 0] := (Blk.newK (w.alloc (.cells #[.int .u8 0, .int .u64 0, .string ⟨#[]⟩, .slice none 0 0, .slice none 0 0] 56)) [.int .i64 0] 3 (w.heap.size + 1) (by simp)).alloc (.cells #[.int .i64 0] 41)
 have e3 : Blk (((w.alloc (.cells #[.int .u8 0, .int .u64 0, .string ⟨#[]⟩, .slice none 0 0, .slice none 0 0] 56)).alloc (.cells #[.int .i64 0] 3)).alloc (.cells #[.int .i64 0] 41)) (w.heap.size + 1 + 1) [.int .i64 0] := Blk.newK ((w.alloc (.cells #[.int .u8 0, .int .u64 0, .string ⟨#[]⟩, .slice none 0 0, .slice none 0 0] 56)).alloc (.cells #[.int .i64 0] 3)) [.int .i64 0] 41 (w.heap.size + 1 + 1) (by simp)
 have aw := fun (u : World) (qb G Y : Nat) (p : PR u qb G Y 200 L false) => alo 6 u qb G Y 200 1 L x left r p (by omega) (by omega) (by omega) (by omega) hL hx
 obtain ⟨va, vc, rfl, -⟩ := h.len
 have bc := qq aw
 have br : r.length ≤ L.length := asw hx
 have bp := qq hT
 have bd := qq hL.le
 have bu := qq hc
 clear aw hx hT hc
 have ca : IntKind.i64.wrap ((L.length : Int) - (r.length : Int)) = (L.length : Int) - (r.length : Int) := wrap_i64 _ (by omega) (by have := bd.out; omega)
 go_enter_defers func172, ntmps172
 go_wp2_with (first | (go_at_call 167; (refine (am2 _ _ L (h.pure aa) hL).mono ?_); rintro e W ⟨G, Y, rfl, ad, bo, bk, ce, z⟩; have X := (qz W.heap.size W).alloc (qj _) (.cells #[.pointer (some ⟨G, 0, none⟩), .int .i64 200] 236); have p5 : PR (W.alloc (.cells #[.pointer (some ⟨G, 0, none⟩), .int .i64 200] 236)) W.heap.size G Y 200 L false := ⟨Blk.new W [.pointer (some ⟨G, 0, none⟩), .int .i64 200] 236, ad.pure X, bo.pure X, ad.1.lt⟩; have v5 := (v3.pure z).pure X; have n5 := (n3.pure z).pure X; have e5 := (e3.pure z).pure X; have al := (aa.trans (z.mono aa.size)).trans (X.mono (aa.trans (z.mono aa.size)).size); have b7 : w.heap.size + 3 ≤ W.heap.size := jk aq z.size; have b6 : w.heap.size + 3 ≤ Y := jk aq bk; have b8 : Y < G := ad.2) | (go_at_call 200; refine (bc.out _ _ _ _ p5).mono ?_; rintro e w6 ⟨t, he, af, ax, p6, ab⟩; have v6 := v5.upd ab (fun e => by unfold Two at e; omega); have n6 := n5.upd ab (fun e => by unfold Two at e; omega); have e6 := e5.upd ab (fun e => by unfold Two at e; omega); have ar := ag0 al ab (fun k hk => by unfold Two at hk; omega) al.size; obtain ⟨N, U, I, J, H, M, O, D, F, rfl, -, -, -, -⟩ := ax.open; rw [VT.arg_mk] at he; subst he; have u7 := Upd.at5 w6 w.heap.size (.int .u8 N) (.int .u64 U) (.string I) (.slice J D.length H) (.slice M F.length O); have v7 := v6.fresh5 (.int .u8 N) (.int .u64 U) (.string I) (.slice J D.length H) (.slice M F.length O); have n7 := n6.upd u7 (fun e => by omega); have e7 := e6.upd u7 (fun e => by omega); have q7 := p6.pl.upd u7 (fun e => by omega) (fun e => by omega) (fun e => by omega); have ae := ag0 ar u7 (fun k hk => by omega) ar.size; have ak := ax.upd u7 (fun i hi e => by have h1 := X.size; omega); have ac := fun (u : World) (hR : Rd (fun i => (W.alloc (.cells #[.pointer (some ⟨G, 0, none⟩), .int .i64 200] 236)).heap.size ≤ i) u (.mk N U I (.slice J D.length H) (.slice M F.length O) D F)) (hT : Tb u) => ajb _ _ u hR hT; simp only [VT.arg_mk, af, bu.out] at ac; have ay := qq ac; clear ac; have bb := qq af; clear af; obtain ⟨a0, a1, a2, a3, a4⟩ := v6.a5; obtain ⟨z0, z1, z2, z3, z4⟩ := v6.f5; obtain ⟨b0, b1, b2, b3, b4⟩ := v7.a5) | (go_at_call 190; refine (ay.out _ ak (bp.out.pure ae)).mono ?_; rintro e w8 ⟨rfl, Z⟩; have v8 := v7.pure Z; have n8 := n7.pure Z; have e8 := e7.pure Z; have q8 := q7.pure Z; have aj := ae.trans (Z.mono ae.size); have bm := ak.pure Z) | (go_at_call 201; (with_reducible refine (awb _ _ _ _ _ _ q8).mono ?_); rintro e _ ⟨rfl, rfl⟩))
 have vd := v8.drew; have nd := n8.drew; have ed := e8.drew; have qd := q8.q.drew; have b9 := aad aj
 obtain ⟨f0, f1, f2, f3, f4⟩ := vd.f5; have f5 := nd.frozen 0; have f6 := ed.frozen 0; have f7 := nd.at 0 rfl; have f8 := ed.at 0 rfl
 obtain ⟨k0, k1, k2, k3, k4⟩ := vd.a5; have k5 := qd.at 0 rfl
 have u9 := Upd.at5 w8.drew w.heap.size (.int .u8 N) (.int .u64 U) (.string I) (.slice J D.length H) (.slice M F.length O)
 have v9 := vd.fresh5 (.int .u8 N) (.int .u64 U) (.string I) (.slice J D.length H) (.slice M F.length O); have n9 := nd.upd u9 (fun e => by omega); have e9 := ed.upd u9 (fun e => by omega); have q9 := qd.upd u9 (fun e => by omega)
 have am := v9.other ⟨w.heap.size + 1, 0, none⟩ (.int .i64 ((L.length : Int) - (r.length : Int))) (by simp only; omega); have cd := n9.set 0 (.int .i64 ((L.length : Int) - (r.length : Int))); have ag := e9.other ⟨w.heap.size + 1, 0, none⟩ (.int .i64 ((L.length : Int) - (r.length : Int))) (by simp only; omega); have an := q9.other ⟨w.heap.size + 1, 0, none⟩ (.int .i64 ((L.length : Int) - (r.length : Int))) (by simp only; omega)
 have bq := am.other ⟨w.heap.size + 1 + 1, 0, none⟩ (.int .i64 0) (by simp only; omega); have cc := ag.set 0 (.int .i64 0); have bi := an.other ⟨w.heap.size + 1 + 1, 0, none⟩ (.int .i64 0) (by simp only; omega)
 obtain ⟨l0, l1, l2, l3, l4⟩ := v9.a5; have l5 := q9.at 0 rfl
 obtain ⟨m0, m1, m2, m3, m4⟩ := am.a5; have m5 := an.at 0 rfl
 obtain ⟨o0, o1, o2, o3, o4⟩ := bq.a5; have o5 := bi.at 0 rfl
 have U9 := Upd.at5 w8 w.heap.size (.int .u8 N) (.int .u64 U) (.string I) (.slice J D.length H) (.slice M F.length O); have V9 := v8.fresh5 (.int .u8 N) (.int .u64 U) (.string I) (.slice J D.length H) (.slice M F.length O); have N9 := n8.upd U9 (fun e => by omega); have E9 := e8.upd U9 (fun e => by omega); have Q9 := q8.q.upd U9 (fun e => by omega); have av := V9.other ⟨w.heap.size + 1, 0, none⟩ (.int .i64 ((L.length : Int) - (r.length : Int))) (by simp only; omega); have bn := N9.set 0 (.int .i64 ((L.length : Int) - (r.length : Int))); have ah := E9.other ⟨w.heap.size + 1, 0, none⟩ (.int .i64 ((L.length : Int) - (r.length : Int))) (by simp only; omega); have au := Q9.other ⟨w.heap.size + 1, 0, none⟩ (.int .i64 ((L.length : Int) - (r.length : Int))) (by simp only; omega)
 obtain ⟨h0, h1, h2, h3, h4⟩ := v8.a5; obtain ⟨j0, j1, j2, j3, j4⟩ := v8.f5; have h5 := N9.at 0 rfl; have j5 := N9.frozen 0; have h6 := ah.at 0 rfl; have j6 := ah.frozen 0
 have bj := av.other ⟨w.heap.size + 1 + 1, 0, none⟩ (.int .i64 0) (by simp only; omega); have bl := bn.other ⟨w.heap.size + 1 + 1, 0, none⟩ (.int .i64 0) (by simp only; omega); have bw := ah.set 0 (.int .i64 0); have b5 := au.other ⟨w.heap.size + 1 + 1, 0, none⟩ (.int .i64 0) (by simp only; omega)
 have bt := V9.drew; have bx := Q9.drew
 obtain ⟨aa0, aa1, aa2, aa3, aa4⟩ := bt.a5; have aa5 := bx.at 0 rfl
 have bf := av.drew; have az := au.drew
 obtain ⟨ab0, ab1, ab2, ab3, ab4⟩ := bf.a5; have ab5 := az.at 0 rfl
 have ai := bj.drew; have bh := b5.drew
 obtain ⟨ac0, ac1, ac2, ac3, ac4⟩ := ai.a5; have ac5 := bh.at 0 rfl
 have y0 := n9.at 0 rfl; have y1 := n9.frozen 0; have y2 := ag.at 0 rfl; have y3 := ag.frozen 0
 refine wp_region_noPanic ?_
 refine wp_region_held_drew (S := (fun w' => w'.cell? ⟨w.heap.size, 0, none⟩ = some (.int .u8 N) ∧ w'.cell? ⟨w.heap.size, 1, none⟩ = some (.int .u64 U) ∧ w'.cell? ⟨w.heap.size, 2, none⟩ = some (.string I) ∧ w'.cell? ⟨w.heap.size, 3, none⟩ = some (.slice J D.length H) ∧ w'.cell? ⟨w.heap.size, 4, none⟩ = some (.slice M F.length O) ∧ w'.cell? ⟨W.heap.size, 0, none⟩ = some (.pointer (some ⟨G, 0, none⟩)))) (by kernel_rfl) ?_ (fun E => ?_)
 ·exact aed
 refine tkF 0 E ?_ (fun w A => A)
 refine tkF 1 E ?_ (fun w A => A)
 refine tkF 2 E ?_ (fun w A => A)
 refine tkF 3 E ?_ (fun w A => A)
 refine tkF 4 E ?_ (fun w A => A)
 refine tkF 5 E ?_ (fun w A => A)
 refine tkF 6 E ?_ (fun w A => A)
 refine aai 7 rfl (fun K hK => ?_)
 go_simp
 (go_at_call 171; refine (atb _ W.heap.size G Y _ left false (q8.pure (aad (qz w8.heap.size w8)))).mono ?_; rintro e _ ⟨rfl, rfl⟩)
 refine hK.out _ _ ?_ (fun E => ?_)
 ·exact aed
 clear hK K
 (try simp only [Act.put, lsT, lsZ, lsS])
 refine tkF 8 E ?_ (fun w A => A)
 refine aai 9 rfl (fun K hK => ?_)
 go_simp
 skip
 refine hK.out _ _ ?_ (fun E => ?_)
 ·exact aed
 clear hK K
 (try simp only [Act.put, lsT, lsZ, lsS])
 refine aai 10 rfl (fun K hK => ?_)
 go_simp
 skip
 refine hK.out _ _ ?_ (fun E => ?_)
 ·exact aed
 clear hK K
 (try simp only [Act.put, lsT, lsZ, lsS])
 refine aai 11 rfl (fun K hK => ?_)
 go_simp
 skip
 refine hK.out _ _ ?_ (fun E => ?_)
 ·exact aed
 clear hK K
 (try simp only [Act.put, lsT, lsZ, lsS])
 refine wpAnyH_done (by kernel_rfl) ?_ _
 refine NoPanic.normal ?_
 go_wp2
 have bg := bl.drew; have ba := bw.drew
 obtain ⟨g0, g1, g2, g3, g4⟩ := ai.a5; have g5 := bg.at 0 rfl; have g6 := ba.at 0 rfl
 have hU := ((((U9.mono (T := OnG w.heap.size) (fun i e _ => Or.inl e)).trans (Upd.set (S := OnG w.heap.size) (p := ⟨w.heap.size + 1, 0, none⟩) (Or.inr (Or.inl rfl)) (.int .i64 ((L.length : Int) - (r.length : Int)))) (fun _ h _ => h)).trans (Upd.set (S := OnG w.heap.size) (p := ⟨w.heap.size + 1 + 1, 0, none⟩) (Or.inr (Or.inr rfl)) (.int .i64 0)) (fun _ h _ => h))).drew
 refine leaves_cons (f := 199) (args := #[.pointer (some ⟨w.heap.size, 0, none⟩), .pointer (some ⟨w.heap.size + 1, 0, none⟩), .pointer (some ⟨w.heap.size + 1 + 1, 0, none⟩)]) (by simp) (by simp [go_sem]) ?_
 refine (ata _ (w.heap.size)).mono ?_
 rintro e u' cb ⟨rfl, rfl, rfl⟩
 simp only [Leaves, settle]
 refine ⟨.tuple #[.agg #[.int .u8 N, .int .u64 U, .string I, .slice J D.length H, .slice M F.length O], .int .i64 ((L.length : Int) - (r.length : Int)), .int .i64 0], (by simp [results, Tryz.results172, go_sem, g0, g1, g2, g3, g4, g5, g6]), ?_⟩
 have cf := X.size
 refine ⟨.mk N U I (.slice J D.length H) (.slice M F.length O) D F, by rw [Int.ofNat_sub br]; rfl, bb.out, ?_, ay6 aj hU⟩
 exact (bm.upd hU (fun i hi e => by unfold OnG at e; omega)).weaken (fun i _ hi => by omega)
theorem aci {P : Prop} (h : P := by
 go_enter func77, ntmps77
 go_wp2
 go_ret
 exact ⟨rfl, rfl⟩) : P := h
theorem awv (w : World) (k : Int) : Calls prog 77 #[.int .u8 k] w fun e O => e = .returned (.int .i64 (us k)) ∧ w = O := by
 by_cases I : k = 1
 ·subst I
  exact aci
 by_cases F : k = 2
 ·subst F
  exact aci
 by_cases G : k = 3
 ·subst G
  exact aci
 by_cases J : k = 4
 ·subst J
  exact aci
 by_cases H : k = 5
 ·subst H
  exact aci
 by_cases D : k = 6
 ·subst D
  exact aci
 by_cases A : k = 7
 ·subst A
  exact aci
 by_cases E : k = 8
 ·subst E
  exact aci
 by_cases K : k = 9
 ·subst K
  exact aci
 have M : us k = 0 := by unfold us; simp only [I, F, G, J, H, D, A, E, K, if_false, or_self]
 have b1 : (k == 1) = false := ju.2 I; have Z : decide (k = 1) = false := qg I
 have b2 : (k == 2) = false := ju.2 F; have d2 : decide (k = 2) = false := qg F
 have b3 : (k == 3) = false := ju.2 G; have d3 : decide (k = 3) = false := qg G
 have Y : (k == 4) = false := ju.2 J; have d4 : decide (k = 4) = false := qg J
 have X : (k == 5) = false := ju.2 H; have d5 : decide (k = 5) = false := qg H
 have W : (k == 6) = false := ju.2 D; have d6 : decide (k = 6) = false := qg D
 have U : (k == 7) = false := ju.2 A; have d7 : decide (k = 7) = false := qg A
 have b8 : (k == 8) = false := ju.2 E; have d8 : decide (k = 8) = false := qg E
 have b9 : (k == 9) = false := ju.2 K; have z : decide (k = 9) = false := qg K
 have N := qq M
 clear M
 go_enter func77, ntmps77
 go_wp2
 go_ret
 exact ⟨by rw [N.out]; rfl, rfl⟩
theorem agf (w : World) (n : Int) : Calls prog 79 #[.int .u64 n] w fun e E => e = .returned (.bool (ah2 n)) ∧ w = E := by
 unfold ah2
 by_cases A : 1 ≤ n
 ·have D : decide (1 ≤ n) = true := qp A
  obtain ⟨b, F⟩ := qx (decide (n ≤ 1099511627776)); rw [D, F]; clear A; go_enter func79, ntmps79; go_wp2; go_ret; exact ⟨by simp, rfl⟩
 ·have D : decide (1 ≤ n) = false := qg A
  rw [D]; clear A; go_enter func79, ntmps79; go_wp2; go_ret; exact ⟨by simp, rfl⟩
def qc (c : UInt8) : Bool := decide (33 ≤ c.toNat) && decide (c.toNat ≤ 126)
theorem ayi (s : ByteArray) : qn s = (decide (1 ≤ s.size) && decide (s.size ≤ 40) && s.data.toList.all qc) := rfl
theorem amk {L : List UInt8} {k : Nat} (A : k < L.length) (h : (L.take k).all qc = true) (D : qc L[k] = true) : (L.take (k + 1)).all qc = true := by
 rw [jx A, List.all_append, h]
 simp [D]
theorem at3 {L : List UInt8} {k : Nat} (D : k < L.length) (A : qc L[k] = false) : L.all qc = false := by
 rw [Bool.eq_false_iff]
 intro h
 rw [jt] at h
 rw [h _ (qy D)] at A
 exact jp A (by simp)
theorem acx (w : World) (s : ByteArray) : Calls prog 78 #[.string s] w fun e Z => e = .returned (.bool (qn s)) ∧ Below w.heap.size w Z := by
 by_cases A : s.size = 0
 ·obtain rfl : s = ⟨#[]⟩ := af5 A
  clear A; go_enter func78, ntmps78; go_wp2; go_ret; exact ⟨rfl, qz _ _⟩
 have g1 : ¬ s.toList = [] := fun e => A (by rw [← acr, e]; rfl)
 have g2 := aeg (show 0 < s.size by omega)
 by_cases M : 40 < s.size
 ·have h : decide ((40 : Int) < (s.size : Int)) = true := qp (by omega)
  have d2 : (40 : Int) < (s.size : Int) := by omega
  have D := qq (show qn s = false by rw [ayi, qg (show ¬ s.size ≤ 40 by omega)]; simp); clear A M; go_enter func78, ntmps78; go_wp2; go_ret; exact ⟨by rw [D.out]; rfl, qz _ _⟩
 have h : decide ((40 : Int) < (s.size : Int)) = false := qg (by omega)
 have d2 : ¬ (40 : Int) < (s.size : Int) := by omega
 have D := qq (show qn s = s.data.toList.all qc by rw [ayi, qp (show 1 ≤ s.size by omega), qp (show s.size ≤ 40 by omega)]; simp)
 have X := qq (acj s)
 clear A M
 go_enter func78, ntmps78
 go_wp2
 go_loopw [13] (fun I wr => ∃ k : Nat, k ≤ s.size ∧ I = .int .i64 k ∧ Hid ((s.data.toList.take k).all qc = true) ∧ Below w.heap.size w wr) (fun I _ => s.size - (intOf I).toNat)
 case atStart => exact ⟨0, by omega, rfl, qq (by simp), qz _ _⟩
 case round =>
  obtain ⟨k, hk, rfl, O, E⟩ := hrel; by_cases Y : k < s.size
  ·have M : (k : Int) < (s.size : Int) := by omega
   have F : k < s.data.toList.length := by rw [X.out]; exact Y
   have H := qq (show s[k] = s.data.toList[k] by simp [ByteArray.getElem_eq_getElem_data]); by_cases K : s[k].toNat < 33
   ·have N : decide ((s[k].toNat : Int) < 33) = true := qp (by omega)
    have U : ((s[k].toNat : Int) < 33) := by omega
    have G := qq (show s.data.toList.all qc = false from at3 F (by rw [← H.out]; unfold qc; simp; omega)); clear K; go_wp2; go_ret; exact ⟨by rw [D.out, G.out]; simp; try rfl, E⟩
   by_cases W : 126 < s[k].toNat
   ·have N : decide ((s[k].toNat : Int) < 33) = false := qg (by omega)
    have U : ¬ ((s[k].toNat : Int) < 33) := by omega
    have d5 : decide ((126 : Int) < (s[k].toNat : Int)) = true := qp (by omega); have z : ((126 : Int) < (s[k].toNat : Int)) := by omega
    have G := qq (show s.data.toList.all qc = false from at3 F (by rw [← H.out]; unfold qc; simp; omega)); clear K W; go_wp2; go_ret; exact ⟨by rw [D.out, G.out]; simp; try rfl, E⟩
   have N : decide ((s[k].toNat : Int) < 33) = false := qg (by omega); have U : ¬ ((s[k].toNat : Int) < 33) := by omega
   have d5 : decide ((126 : Int) < (s[k].toNat : Int)) = false := qg (by omega); have z : ¬ ((126 : Int) < (s[k].toNat : Int)) := by omega
   have J := qq (amk F O.out (by rw [← H.out]; unfold qc; simp; omega)); clear K W; go_wp2; go_roundw
   case rel => exact ⟨k + 1, by omega, by go_num, J, E⟩
   case measure => simp [intOf]; omega
  ·obtain rfl : k = s.size := by omega
   have J := qq (show s.data.toList.all qc = true by have aa := O.out; rwa [List.take_of_length_le (by rw [X.out]; exact qj _)] at aa); go_wp2; go_ret; exact ⟨by rw [D.out, J.out]; rfl, E⟩
theorem bfj {P : Prop} (h : P := by
 have hl := qq (acj s)
 have hq := qq (ayi s)
 go_enter func105, ntmps105
 go_wp2
 go_loopw [3] (fun s3 wr => ∃ k : Nat, k ≤ s.size ∧ s3 = .int .i64 k ∧ Hid ((s.data.toList.take k).all qc = true) ∧ Below w.heap.size w wr) (fun s3 _ => s.size - (intOf s3).toNat)
 case atStart => exact ⟨0, by omega, rfl, qq (by simp), qz _ _⟩
 case round =>
  obtain ⟨k, hk, rfl, hA, hB⟩ := hrel; by_cases hlt : k < s.size
  ·have h1 : (k : Int) < (s.size : Int) := by omega
   have hkl : k < s.data.toList.length := by rw [hl.out]; exact hlt
   have hbt := qq (show s[k] = s.data.toList[k] by simp [ByteArray.getElem_eq_getElem_data]); by_cases c1 : s[k].toNat < 33
   ·have d3 : decide ((s[k].toNat : Int) ≤ 32) = true := qp (by omega)
    have d4 : ((s[k].toNat : Int) ≤ 32) := by omega
    have hno := qq (show s.data.toList.all qc = false from at3 hkl (by rw [← hbt.out]; unfold qc; simp; omega)); clear c1; go_wp2; go_ret; exact ⟨by rw [hq.out, hno.out]; simp; try rfl, hB⟩
   by_cases c2 : 126 < s[k].toNat
   ·have d3 : decide ((s[k].toNat : Int) ≤ 32) = false := qg (by omega)
    have d4 : ¬ ((s[k].toNat : Int) ≤ 32) := by omega
    have d5 : decide ((127 : Int) ≤ (s[k].toNat : Int)) = true := qp (by omega); have d6 : ((127 : Int) ≤ (s[k].toNat : Int)) := by omega
    have hno := qq (show s.data.toList.all qc = false from at3 hkl (by rw [← hbt.out]; unfold qc; simp; omega)); clear c1 c2; go_wp2; go_ret; exact ⟨by rw [hq.out, hno.out]; simp; try rfl, hB⟩
   have d3 : decide ((s[k].toNat : Int) ≤ 32) = false := qg (by omega); have d4 : ¬ ((s[k].toNat : Int) ≤ 32) := by omega
   have d5 : decide ((127 : Int) ≤ (s[k].toNat : Int)) = false := qg (by omega); have d6 : ¬ ((127 : Int) ≤ (s[k].toNat : Int)) := by omega
   have hA2 := qq (amk hkl hA.out (by rw [← hbt.out]; unfold qc; simp; omega)); clear c1 c2; go_wp2; go_roundw
   case rel => exact ⟨k + 1, by omega, by go_num, hA2, hB⟩
   case measure => simp [intOf]; omega
  ·obtain rfl : k = s.size := by omega
   have hA2 := qq (show s.data.toList.all qc = true by have h := hA.out; rwa [List.take_of_length_le (by rw [hl.out]; exact qj _)] at h); clear hm; by_cases h0 : 1 ≤ s.size
   ·have d1 : decide ((1 : Int) ≤ (s.size : Int)) = true := qp (by omega)
    have d1n : decide (1 ≤ s.size) = true := qp h0; by_cases h2 : s.size ≤ 40
    ·have d2 : decide ((s.size : Int) ≤ 40) = true := qp (by omega)
     have hqq := qq (show qn s = true by rw [hq.out, hA2.out, d1n, qp h2]; rfl); clear h0 h2 d1n; go_wp2; go_ret; exact ⟨by rw [hqq.out]; rfl, hB⟩
    ·have d2 : decide ((s.size : Int) ≤ 40) = false := qg (by omega)
     have hqq := qq (show qn s = false by rw [hq.out, qg h2]; simp); clear h0 h2 d1n; go_wp2; go_ret; exact ⟨by rw [hqq.out]; rfl, hB⟩
   ·have d1 : decide ((1 : Int) ≤ (s.size : Int)) = false := qg (by omega)
    have hqq := qq (show qn s = false by rw [hq.out, qg h0]; simp); clear h0; go_wp2; go_ret
    exact ⟨by rw [hqq.out]; rfl, hB⟩) : P := h
theorem bcx (w : World) (s : ByteArray) (hm : (s.size : Int) < 4611686018427387904) : Calls prog 105 #[.string s] w fun e A => e = .returned (.bool (qn s)) ∧ Below w.heap.size w A := by
 exact bfj
theorem ae9 (a b : ByteArray) : (a.toList == b.toList) = (a == b) := (beq_toListBytes a b).symm
theorem azr (w : World) (F H : Int) (E I D G : ByteArray) : (binOp .eql 30 (.agg #[.int .u32 F, .string E, .string I]) (.agg #[.int .u32 H, .string D, .string G])).run prog w = .ok (.bool (F == H && (E == D && I == G))) w := by
 have A : prog.fieldsOf 30 = (match prog.underlying 30 with | some (.struct fs) => fs | _ => #[]) := rfl
 rw [underlying30] at A
 simp only at A
 rw [run_eql_struct, show (10000 : Nat) = 9999 + 1 from rfl, run_equalIn_agg w 9999 _ _ _ (by rw [A]; exact underlying30) (by kernel_rfl), A]
 cases h1 : (F == H) <;> cases h2 : (E == D) <;> cases h3 : (I == G) <;> simp [go_sem, ae9, h1, h2, h3]
theorem azs (w : World) (E G : Int) (D H A F : ByteArray) : (binOp .neq 30 (.agg #[.int .u32 E, .string D, .string H]) (.agg #[.int .u32 G, .string A, .string F])).run prog w = .ok (.bool ((E, D, H) != (G, A, F))) w := by
 have I : prog.fieldsOf 30 = (match prog.underlying 30 with | some (.struct fs) => fs | _ => #[]) := rfl
 rw [underlying30] at I
 simp only at I
 rw [run_neq_struct, show (10000 : Nat) = 9999 + 1 from rfl, run_equalIn_agg w 9999 _ _ _ (by rw [I]; exact underlying30) (by kernel_rfl), I]
 have J : ((E, D, H) != (G, A, F)) = !(E == G && (D == A && H == F)) := rfl
 rw [J]
 cases h1 : (E == G) <;> cases h2 : (D == A) <;> cases h3 : (H == F) <;> simp [go_sem, ae9, h1, h2, h3]
theorem aes {P : Prop} (h : P := by
 go_enter func53, ntmps53
 go_wp2
 go_ret
 exact ⟨rfl, (qz _ _).alloc (qj _) _⟩) : P := h
theorem at4 (w : World) (x : Xn) :
 Calls prog 53 #[.agg #[.int .u32 x.1, .string x.2.1, .string x.2.2]] w fun e I => e = .returned (.int .i64 (if 0 < x.2.1.size ∧ x.2.1.size ≤ 64 ∧ x.2.2.size ≤ 64 then 0 else 40)) ∧ Below w.heap.size w I := by
 obtain ⟨M, A, E⟩ := x
 simp only
 by_cases D : 0 < A.size
 ·have K := aeg D
  by_cases F : A.size ≤ 64
  ·by_cases H : E.size ≤ 64
   ·rw [qw ⟨D, F, H⟩]
    have G : ¬ 64 < A.size := by omega
    have J : ¬ 64 < E.size := by omega
    exact aes
   ·rw [qk (fun h => H h.2.2)]
    have G : ¬ 64 < A.size := by omega
    have J : 64 < E.size := by omega
    exact aes
  ·rw [qk (fun h => F h.2.1)]
   have G : 64 < A.size := by omega
   exact aes
 ·rw [qk (fun h => D h.1)]
  have K := agt (show A.size = 0 by omega); exact aes
theorem ayj (w : World) (E : Int) (A D : ByteArray) : Calls prog 53 #[.agg #[.int .u32 E, .string A, .string D]] w fun e F => e = .returned (.int .i64 (if Xn.okB (E, A, D) then 0 else 40)) ∧ Below w.heap.size w F := by
 refine (at4 w (E, A, D)).mono fun e F ⟨H, G⟩ => ⟨?_, G⟩
 rw [H]
 unfold Xn.okB
 by_cases h : 0 < A.size ∧ A.size ≤ 64 ∧ D.size ≤ 64
 ·simp [h.1, h.2.1, h.2.2]
 ·rw [qk h, qk (fun e => h (by simpa [and_assoc] using e))]
theorem bgk : (prog.info? 30).map (fun i => (i.zero, i.size)) = some (some (.agg #[.int .u32 0, .string ⟨#[]⟩, .string ⟨#[]⟩]), 3) := by kernel_rfl
theorem agh {P : Prop} (h : P := by
 go_wp2_with (go_at_call 134; refine (hputh.out).mono ?_; rintro e w2 ⟨rfl, hB2⟩; have hB12 := hB1.trans (hB2.mono hB1.size))
 go_ret
 exact ⟨by rw [hsm.out]; rfl, hB12⟩) : P := h
theorem arj (t : PT) (P : Nat → Prop) (w : World) (O : Rd P w t.app) (hT : Tb w) : Calls prog 160 #[t.arg] w fun e w' => e = .returned (.bool t.p.smallB) ∧ Below w.heap.size w w' := by
 obtain ⟨key, M, red, mid, tv⟩ := t
 have O : Rd _ _ tv := O
 obtain ⟨U, W, Y, N, K, J, I, E, F, rfl, -⟩ := O.open
 have hB1 := (qz w.heap.size w).alloc (qj _) (.cells #[.string key, .bool M, .bool red, .string mid, .int .u8 U, .int .u64 W, .string Y, .slice N E.length K, .slice J F.length I] 58)
 have A1 := Blk.new w [.string key, .bool M, .bool red, .string mid, .int .u8 U, .int .u64 W, .string Y, .slice N E.length K, .slice J F.length I] 58
 have Z := ajj (PT.mk key M red mid (VT.mk U W Y (.slice N E.length K) (.slice J F.length I) E F)) P _ (O.pure hB1) (hT.pure hB1)
 obtain ⟨A, z⟩ := qx ((PT.mk key M red mid (VT.mk U W Y (.slice N E.length K) (.slice J F.length I) E F)).p)
 obtain ⟨cx, G⟩ := qx A.chk
 obtain ⟨D, H⟩ := qx (if cx = 0 then A.text else (⟨#[]⟩ : ByteArray))
 rw [z, G, H, PT.arg_mk] at Z
 rw [z, PT.arg_mk]
 have hputh := qq Z
 obtain ⟨a0, a1, a2, a3, a4, a5, a6, a7, a8⟩ := A1.a9
 clear Z z
 by_cases X : cx = 0
 ·subst X
  rw [qw rfl] at H; obtain ⟨b, hb⟩ := qx (decide (A.bytes.length ≤ 8192)); have hsm := qq (show A.smallB = b by unfold Pr.smallB; rw [G, hb]; rfl)
  have hz : decide ((D.size : Int) ≤ 8192) = b := by
   rw [← hb, ← H]; have e : A.text.size = A.bytes.length := rfl; rw [e]; by_cases h : A.bytes.length ≤ 8192
   ·rw [qp h]; exact qp (by omega)
   ·rw [qg h]; exact qg (by omega)
  have aa : decide (D.size ≤ 8192) = b := by
   rw [← hz]; by_cases h : D.size ≤ 8192
   ·rw [qp h]; exact (qp (by omega)).symm
   ·rw [qg h]; exact (qg (by omega)).symm
  clear H hb G; go_enter func160, ntmps160; cases b
  ·have ac : ¬ D.size ≤ 8192 := jq aa
   have ab : ¬ (D.size : Int) ≤ 8192 := by omega
   exact agh
  ·have ac : D.size ≤ 8192 := qt aa
   have ab : (D.size : Int) ≤ 8192 := by omega
   exact agh
 ·have h1 : (cx == 0) = false := ju.2 X
  have hsm := qq (show A.smallB = false by unfold Pr.smallB; rw [qg (by rw [G]; exact X)]; rfl); clear H G X; go_enter func160, ntmps160; exact agh
theorem ahp {P : Prop} (h : P := by
 cases bb
 ·have y1 : ¬ body.size ≤ 4096 := jq z3
  have y2 : ¬ (body.size : Int) ≤ 4096 := by omega
  go_enter func132, ntmps132; go_wp2_with (first | (go_at_call 78; refine (acx _ q).mono ?_; rintro e w2 ⟨he, hB2⟩; rw [hqbh.out] at he; subst he; have A2 := A1.pure hB2; have R2 := R1.pure hB2; have hT2 := hB1.trans (hB2.mono hB1.size); obtain ⟨b0, b1, b2, b3, b4, b5, b6, b7, b8, b9, b10, b11⟩ := A2.a12) | (go_at_call 79; (with_reducible refine (agf _ _).mono ?_); rintro e w3 ⟨he, rfl⟩; rw [hibh.out] at he; subst he)); go_ret; exact ⟨by rw [hok.out]; cases sb <;> rfl, hT2⟩
 ·have y1 : body.size ≤ 4096 := qt z3
  have y2 : (body.size : Int) ≤ 4096 := by omega
  go_enter func132, ntmps132; go_wp2_with (first | (go_at_call 78; refine (acx _ q).mono ?_; rintro e w2 ⟨he, hB2⟩; rw [hqbh.out] at he; subst he; have A2 := A1.pure hB2; have R2 := R1.pure hB2; have hT2 := hB1.trans (hB2.mono hB1.size); obtain ⟨b0, b1, b2, b3, b4, b5, b6, b7, b8, b9, b10, b11⟩ := A2.a12) | (go_at_call 79; (with_reducible refine (agf _ _).mono ?_); rintro e w3 ⟨he, rfl⟩; rw [hibh.out] at he; subst he) | (go_at_call 160; refine (hsmh.out _ R2 (hT.pure hT2)).mono ?_; rintro e w4 ⟨rfl, hB4⟩; have hT4 := hT2.trans (hB4.mono hT2.size))); go_ret
  exact ⟨by rw [hok.out]; cases sb <;> rfl, hT4⟩) : P := h
theorem ajt {P : Prop} (h : P := by
 clear z4
 cases zb <;> cases bb <;> (
  go_enter func132, ntmps132; go_wp2_with (first | (go_at_call 78; refine (acx _ q).mono ?_; rintro e w2 ⟨he, hB2⟩; rw [hqbh.out] at he; subst he; have A2 := A1.pure hB2; have R2 := R1.pure hB2; have hT2 := hB1.trans (hB2.mono hB1.size); obtain ⟨b0, b1, b2, b3, b4, b5, b6, b7, b8, b9, b10, b11⟩ := A2.a12) | (go_at_call 79; (with_reducible refine (agf _ _).mono ?_); rintro e w3 ⟨he, rfl⟩; rw [hibh.out] at he; subst he)); go_ret
  exact ⟨by rw [hok.out]; cases sb <;> rfl, hT2⟩)) : P := h
theorem ark (t : PtT) (num : Bool) (P : Nat → Prop) (w : World) (U : Rd P w t.pr.app) (hT : Tb w) : Calls prog 132 #[t.arg, .bool num] w fun e z => e = .returned (.bool (Pt.okB num t.p)) ∧ Below w.heap.size w z := by
 obtain ⟨q, id, ⟨key, K, red, mid, uv⟩, body⟩ := t
 have U : Rd _ _ uv := U
 obtain ⟨I, J, us, G, F, H, E, A, D, rfl, -⟩ := U.open
 rw [PtT.arg_mk]
 have hB1 := (qz w.heap.size w).alloc (qj _) (.cells #[.string q, .int .u64 id, .string key, .bool K, .bool red, .string mid, .int .u8 I, .int .u64 J, .string us, .slice G A.length F, .slice H D.length E, .string body] 64)
 have A1 := Blk.new w [.string q, .int .u64 id, .string key, .bool K, .bool red, .string mid, .int .u8 I, .int .u64 J, .string us, .slice G A.length F, .slice H D.length E, .string body] 64
 have R1 := U.pure hB1
 obtain ⟨sb, Y⟩ := qx ((PT.mk key K red mid (VT.mk I J us (.slice G A.length F) (.slice H D.length E) A D)).p.smallB)
 have W := fun (u : World) (R : Rd P u (VT.mk I J us (.slice G A.length F) (.slice H D.length E) A D)) (hu : Tb u) => arj (PT.mk key K red mid (VT.mk I J us (.slice G A.length F) (.slice H D.length E) A D)) P u R hu
 simp only [Y, PT.arg_mk] at W
 have hsmh := qq W
 obtain ⟨qb, Z⟩ := qx (qn q)
 obtain ⟨O, X⟩ := qx (ah2 id)
 obtain ⟨zb, M⟩ := qx (decide (id = 0))
 obtain ⟨bb, N⟩ := qx (decide (body.size ≤ 4096))
 have hok := qq (show Pt.okB num (PtT.mk q id (PT.mk key K red mid (VT.mk I J us (.slice G A.length F) (.slice H D.length E) A D)) body).p = (qb && (O == num) && (num || zb) && bb && sb) by rw [← Z, ← X, ← M, ← N, ← Y]; rfl)
 have hqbh := qq Z; have hibh := qq X
 have z1 : (id == 0) = zb := by rw [← M]; rfl
 have z2 : decide ((body.size : Int) ≤ 4096) = bb := by
  rw [← N]; by_cases h : body.size ≤ 4096
  ·rw [qp h]; exact qp (by omega)
  ·rw [qg h]; exact qg (by omega)
 have z3 := N
 have z4 := M
 clear W Y Z X M N
 obtain ⟨a0, a1, a2, a3, a4, a5, a6, a7, a8, a9, a10, a11⟩ := A1.a12
 cases qb
 ·clear z1 z2 z3 z4
  cases O <;> cases num <;> cases zb <;> cases bb <;> (
   go_enter func132, ntmps132; go_wp2_with (first | (go_at_call 78; refine (acx _ q).mono ?_; rintro e w2 ⟨he, hB2⟩; rw [hqbh.out] at he; subst he; have A2 := A1.pure hB2; have R2 := R1.pure hB2; have hT2 := hB1.trans (hB2.mono hB1.size); obtain ⟨b0, b1, b2, b3, b4, b5, b6, b7, b8, b9, b10, b11⟩ := A2.a12) | (go_at_call 79; (with_reducible refine (agf _ _).mono ?_); rintro e w3 ⟨he, rfl⟩; rw [hibh.out] at he; subst he)); go_ret
   exact ⟨by rw [hok.out]; cases sb <;> rfl, hT2⟩)
 cases num
 ·cases O
  ·cases zb
   ·have y3 : ¬ id = 0 := jq z4
    cases bb <;> (
     go_enter func132, ntmps132; go_wp2_with (first | (go_at_call 78; refine (acx _ q).mono ?_; rintro e w2 ⟨he, hB2⟩; rw [hqbh.out] at he; subst he; have A2 := A1.pure hB2; have R2 := R1.pure hB2; have hT2 := hB1.trans (hB2.mono hB1.size); obtain ⟨b0, b1, b2, b3, b4, b5, b6, b7, b8, b9, b10, b11⟩ := A2.a12) | (go_at_call 79; (with_reducible refine (agf _ _).mono ?_); rintro e w3 ⟨he, rfl⟩; rw [hibh.out] at he; subst he)); go_ret
     exact ⟨by rw [hok.out]; cases sb <;> rfl, hT2⟩)
   ·obtain rfl : id = 0 := qt z4
    exact ahp
  ·exact ajt
 ·cases O
  ·exact ajt
  ·cases zb
   ·have y3 : ¬ id = 0 := jq z4
    exact ahp
   ·obtain rfl : id = 0 := qt z4
    exact ahp
theorem at6 (t : PtT) (kind : Int) (X : Nat) (P : Nat → Prop) (w : World) (hE : w.cell? ⟨X, 0, none⟩ = some (.int .u8 kind)) (ab : X < w.heap.size) (M : Rd P w t.pr.app) (hT : Tb w) :
 Calls prog 131 #[t.arg, .pointer (some ⟨X, 0, none⟩)] w fun e w' => e = .returned (.bool (!Pt.okB (kind == 3) t.p)) ∧ Below w.heap.size w w' := by
 obtain ⟨q, id, ⟨key, J, red, mid, uv⟩, E⟩ := t
 have M : Rd _ _ uv := M
 obtain ⟨O, N, us, H, G, I, F, A, D, rfl, -⟩ := M.open
 rw [PtT.arg_mk]
 have K := (qz w.heap.size w).alloc (qj _) (.cells #[.string q, .int .u64 id, .string key, .bool J, .bool red, .string mid, .int .u8 O, .int .u64 N, .string us, .slice H A.length G, .slice I D.length F, .string E] 64)
 have A1 := Blk.new w [.string q, .int .u64 id, .string key, .bool J, .bool red, .string mid, .int .u8 O, .int .u64 N, .string us, .slice H A.length G, .slice I D.length F, .string E] 64
 have R1 := M.pure K
 obtain ⟨Y, aa⟩ := qx (kind == 3)
 obtain ⟨rb, U⟩ := qx (Pt.okB Y (PtT.mk q id (PT.mk key J red mid (VT.mk O N us (.slice H A.length G) (.slice I D.length F) A D)) E).p)
 have W := ark (PtT.mk q id (PT.mk key J red mid (VT.mk O N us (.slice H A.length G) (.slice I D.length F) A D)) E) Y P _ R1 (hT.pure K)
 rw [PtT.arg_mk, U] at W
 rw [aa, U]
 have Z := qq W
 clear W U
 obtain ⟨a0, a1, a2, a3, a4, a5, a6, a7, a8, a9, a10, a11⟩ := A1.a12
 go_enter func131, ntmps131
 go_wp2_with (go_at_call 132; refine (Z.out).mono ?_; rintro e w2 ⟨rfl, h⟩; have z := K.trans (h.mono K.size))
 go_ret
 exact ⟨rfl, z⟩
theorem at7 (w : World) (q : ByteArray) (id : Int) : Calls prog 133 #[.agg #[.string q, .int .u64 id]] w fun e N => e = .returned (.bool (!Rf.okB ⟨q, id⟩)) ∧ Below w.heap.size w N := by
 have G := (qz w.heap.size w).alloc (qj _) (.cells #[.string q, .int .u64 id] 68)
 have I := Blk.new w [.string q, .int .u64 id] 68
 obtain ⟨W, X⟩ := I.a2
 obtain ⟨qb, E⟩ := qx (qn q)
 obtain ⟨H, D⟩ := qx (ah2 id)
 rw [show Rf.okB ⟨q, id⟩ = (qb && H) by rw [← E, ← D]; rfl]
 have J := qq E; have K := qq D
 clear E D
 cases qb
 all_goals
  go_enter func133, ntmps133; go_wp2_with (first | (go_at_call 78; refine (acx _ q).mono ?_; rintro e Z ⟨A, F⟩; rw [J.out] at A; subst A; have O := I.pure F; have M := G.trans (F.mono G.size); have Y := O.at 1 rfl) | (go_at_call 79; (with_reducible refine (agf _ _).mono ?_); rintro e U ⟨A, rfl⟩; rw [K.out] at A; subst A)); go_ret; exact ⟨by cases H <;> rfl, M⟩
theorem ah3 {L : List PtT} {p : PtT → Bool} (k : Nat) (h1 : ∀ j, (h : j < L.length) → j < k → p L[j] = false) (h2 : (h : k < L.length) → p L[k] = true) : L.any p = decide (k < L.length) := by
 exact adu
theorem aww (w : World) (M : Option Addr) (J : Nat) (L : List PtT) (P : Nat → Prop) (p : PtT → Bool) (N : Nat) (Z : Slc aat 12 w (.slice M L.length J) L) (ai : (L.length : Int) ≤ 9223372036854775807) (U : Hid (∀ x ∈ L, Rd P w x.pr.app)) (O : Hid (∀ x ∈ L, ∀ u : World, Below w.heap.size w u → Calls prog 131 #[x.arg, .pointer (some ⟨N, 0, none⟩)] u fun e z => e = .returned (.bool (p x)) ∧ Below u.heap.size u z)) :
 Calls prog 141 #[.slice M L.length J, .func (.func 131) #[] #[.pointer (some ⟨N, 0, none⟩)]] w fun e X => (∃ r : Int, e = .returned (.int .i64 r) ∧ decide (0 ≤ r) = L.any p) ∧ Below w.heap.size w X := by
 go_enter func141, ntmps141
 go_wp2
 go_loopw [8] (fun G wr => ∃ k : Nat, k ≤ L.length ∧ G = .int .i64 k ∧ Hid (∀ j, (h : j < L.length) → j < k → p L[j] = false) ∧ Below w.heap.size w wr) (fun G _ => L.length - (intOf G).toNat)
 case atStart => exact ⟨0, by omega, rfl, qq (fun j h h0 => jp h0 (by omega)), qz _ _⟩
 case round =>
  obtain ⟨k, hk, rfl, hno, A⟩ := hrel; by_cases D : k < L.length
  ·have I := Z.pure A
   obtain ⟨g, off, rfl⟩ := I.addrB D; have W := (U.out L[k] (qy D)).pure A; obtain ⟨q, id, key, ah, red, mid, uk, un, us, ad, ae, af, ac, ab, ul, aa, K, q0, q1, q2, q3, q4, q5, q6, q7, q8, q9, aj, ag⟩ := ad5 I D W; have hi := O.out L[k] (qy D) wr A; obtain ⟨b, F⟩ := qx (p L[k]); rw [F, K, PtT.arg_mk] at hi; have H := qq hi; have hbh := qq F; clear hi F K; have h1 : (k : Int) < (L.length : Int) := by omega
   cases b
   ·go_wp2_with (go_at_call 131; (with_reducible refine H.out.mono ?_); rintro e Y ⟨rfl, E⟩; have hB2 := A.trans (E.mono A.size))
    exact ac8
   ·go_wp2_with (go_at_call 131; (with_reducible refine H.out.mono ?_); rintro e Y ⟨rfl, E⟩; have hB2 := A.trans (E.mono A.size))
    go_ret; exact ⟨⟨k, rfl, by rw [ah3 k hno.out (fun _ => hbh.out), qp D]; simp⟩, hB2⟩
  ·obtain rfl : k = L.length := by omega
   go_wp2; go_ret; exact ⟨⟨-1, rfl, by rw [ah3 L.length hno.out (fun h => jp h D), qg D]; decide⟩, A⟩
theorem awx (w : World) (D : Option Addr) (A : Nat) (L : List PtT) (P : Nat → Prop) (p : PtT → Bool) (E : Nat) (M : Slc aat 12 w (.slice D L.length A) L) (H : (L.length : Int) ≤ 9223372036854775807) (G : Hid (∀ x ∈ L, Rd P w x.pr.app)) (F : Hid (∀ x ∈ L, ∀ u : World, Below w.heap.size w u → Calls prog 131 #[x.arg, .pointer (some ⟨E, 0, none⟩)] u fun e N => e = .returned (.bool (p x)) ∧ Below u.heap.size u N)) :
 Calls prog 91 #[.slice D L.length A, .func (.func 131) #[] #[.pointer (some ⟨E, 0, none⟩)]] w fun e J => e = .returned (.bool (L.any p)) ∧ Below w.heap.size w J := by
 go_enter func91, ntmps91
 go_wp2_with (go_at_call 141; (with_reducible refine (aww w D A L P p E M H G F).mono ?_); rintro e O ⟨⟨r, rfl, K⟩, I⟩)
 go_ret
 exact ⟨by rw [← K]; rfl, I⟩
theorem ah4 {L : List Rf} {p : Rf → Bool} (k : Nat) (h1 : ∀ j, (h : j < L.length) → j < k → p L[j] = false) (h2 : (h : k < L.length) → p L[k] = true) : L.any p = decide (k < L.length) := by
 exact adu
theorem awy (w : World) (M : Option Addr) (J : Nat) (L : List Rf) (p : Rf → Bool) (W : Slc abc 2 w (.slice M L.length J) L) (Y : (L.length : Int) ≤ 9223372036854775807) (N : Hid (∀ x ∈ L, ∀ u : World, Below w.heap.size w u → Calls prog 133 #[.agg #[.string x.q, .int .u64 x.id]] u fun e X => e = .returned (.bool (p x)) ∧ Below u.heap.size u X)) :
 Calls prog 142 #[.slice M L.length J, .func (.func 133) #[] #[]] w fun e O => (∃ r : Int, e = .returned (.int .i64 r) ∧ decide (0 ≤ r) = L.any p) ∧ Below w.heap.size w O := by
 go_enter func142, ntmps142
 go_wp2
 go_loopw [8] (fun F wr => ∃ k : Nat, k ≤ L.length ∧ F = .int .i64 k ∧ Hid (∀ j, (h : j < L.length) → j < k → p L[j] = false) ∧ Below w.heap.size w wr) (fun F _ => L.length - (intOf F).toNat)
 case atStart => exact ⟨0, by omega, rfl, qq (fun j h h0 => jp h0 (by omega)), qz _ _⟩
 case round =>
  obtain ⟨k, z, rfl, hno, A⟩ := hrel; by_cases D : k < L.length
  ·have I := W.pure A
   obtain ⟨g, off, rfl⟩ := I.addrB D; obtain ⟨xq, Z, K, q0, q1⟩ := ado I D; have hi := N.out L[k] (qy D) wr A; obtain ⟨b, G⟩ := qx (p L[k]); rw [G, K] at hi; have H := qq hi; have hbh := qq G; clear hi G K; have h1 : (k : Int) < (L.length : Int) := by omega
   cases b
   ·go_wp2_with (go_at_call 133; (with_reducible refine H.out.mono ?_); rintro e U ⟨rfl, E⟩; have hB2 := A.trans (E.mono A.size))
    exact ac8
   ·go_wp2_with (go_at_call 133; (with_reducible refine H.out.mono ?_); rintro e U ⟨rfl, E⟩; have hB2 := A.trans (E.mono A.size))
    go_ret; exact ⟨⟨k, rfl, by rw [ah4 k hno.out (fun _ => hbh.out), qp D]; simp⟩, hB2⟩
  ·obtain rfl : k = L.length := by omega
   go_wp2; go_ret; exact ⟨⟨-1, rfl, by rw [ah4 L.length hno.out (fun h => jp h D), qg D]; decide⟩, A⟩
theorem awz (w : World) (D : Option Addr) (A : Nat) (L : List Rf) (p : Rf → Bool) (I : Slc abc 2 w (.slice D L.length A) L) (F : (L.length : Int) ≤ 9223372036854775807) (E : Hid (∀ x ∈ L, ∀ u : World, Below w.heap.size w u → Calls prog 133 #[.agg #[.string x.q, .int .u64 x.id]] u fun e K => e = .returned (.bool (p x)) ∧ Below u.heap.size u K)) :
 Calls prog 93 #[.slice D L.length A, .func (.func 133) #[] #[]] w fun e H => e = .returned (.bool (L.any p)) ∧ Below w.heap.size w H := by
 go_enter func93, ntmps93
 go_wp2_with (go_at_call 142; (with_reducible refine (awy w D A L p I F E).mono ?_); rintro e M ⟨⟨r, rfl, J⟩, G⟩)
 go_ret
 exact ⟨by rw [← J]; rfl, G⟩
theorem aua {A : Type} (L : List A) (f : A → Bool) : L.any (fun x => !f x) = !L.all f := by induction L with | nil => rfl | cons x L ih => rw [List.any_cons, List.all_cons, ih, Bool.not_and]
theorem all_map {A D : Type} (L : List A) (g : A → D) (f : D → Bool) : (L.map g).all f = L.all (fun x => f (g x)) := by induction L with | nil => rfl | cons x L ih => rw [List.map_cons, List.all_cons, List.all_cons, ih]
def EnT.wk (t : EnT) : Bool := decide (t.zu.length ≤ 100) && decide (t.zy.length ≤ 100) && t.zu.all (fun p => Pt.okB (t.kind == 3) p.p) && t.zy.all Rf.okB
theorem aw0 (t : EnT) (P : Nat → Prop) (w : World) (hR : EnRd P w t) (hT : Tb w) : Calls prog 80 #[t.arg] w fun e w' => e = .returned (.bool t.wk) ∧ Below w.heap.size w w' := by
 obtain ⟨kind, J, n, M, K, N, I, H, E, F, A, D, rfl, ac, aa⟩ := hR.open
 rw [EnT.arg_mk]
 have G := (qz w.heap.size w).alloc (qj _) (.cells #[.int .u8 kind, .string J, .int .u64 n, .int .u32 M, .string K, .string N, .slice I A.length H, .slice E D.length F] 34)
 have W := Blk.new w [.int .u8 kind, .string J, .int .u64 n, .int .u32 M, .string K, .string N, .slice I A.length H, .slice E D.length F] 34
 have Y := hR.pure G
 have ad := qq (show (EnT.mk kind J n (M, K, N) (.slice I A.length H) (.slice E D.length F) A D).wk = (decide (A.length ≤ 100) && decide (D.length ≤ 100) && A.all (fun p => Pt.okB (kind == 3) p.p) && D.all Rf.okB) from rfl)
 obtain ⟨a0, a1, a2, a3, a4, a5, a6, a7⟩ := W.a8
 by_cases U : A.length ≤ 100
 rotate_left 1
 ·have d1 : decide ((100 : Int) < (A.length : Int)) = true := qp (by omega)
  have d2 : (100 : Int) < (A.length : Int) := by omega
  have ab := qq (show (EnT.mk kind J n (M, K, N) (.slice I A.length H) (.slice E D.length F) A D).wk = false by rw [ad.out, qg U]; simp); clear ac aa U; go_enter func80, ntmps80; go_wp2; go_ret; exact ⟨by rw [ab.out]; rfl, G⟩
 by_cases Z : D.length ≤ 100
 rotate_left 1
 ·have d1 : decide ((100 : Int) < (A.length : Int)) = false := qg (by omega)
  have d2 : ¬ (100 : Int) < (A.length : Int) := by omega
  have d3 : decide ((100 : Int) < (D.length : Int)) = true := qp (by omega); have d4 : (100 : Int) < (D.length : Int) := by omega
  have ab := qq (show (EnT.mk kind J n (M, K, N) (.slice I A.length H) (.slice E D.length F) A D).wk = false by rw [ad.out, qg Z]; simp); clear ac aa U Z; go_enter func80, ntmps80; go_wp2; go_ret; exact ⟨by rw [ab.out]; rfl, G⟩
 have d1 : decide ((100 : Int) < (A.length : Int)) = false := qg (by omega)
 have d2 : ¬ (100 : Int) < (A.length : Int) := by omega
 have d3 : decide ((100 : Int) < (D.length : Int)) = false := qg (by omega)
 have d4 : ¬ (100 : Int) < (D.length : Int) := by omega
 have l1 : (A.length : Int) ≤ 9223372036854775807 := by omega
 have l2 : (D.length : Int) ≤ 9223372036854775807 := by omega
 have ag := (W.at 0 rfl : (w.alloc (.cells #[.int .u8 kind, .string J, .int .u64 n, .int .u32 M, .string K, .string N, .slice I A.length H, .slice E D.length F] 34)).cell? ⟨w.heap.size, 0, none⟩ = some (.int .u8 kind))
 obtain ⟨pb, ae⟩ := qx (A.all (fun p => Pt.okB (kind == 3) p.p))
 obtain ⟨tb, z⟩ := qx (D.all Rf.okB)
 have af := qq (show (EnT.mk kind J n (M, K, N) (.slice I A.length H) (.slice E D.length F) A D).wk = (pb && tb) by rw [ad.out, qp U, qp Z, ae, z]; rfl)
 have c1 := awx (w.alloc (.cells #[.int .u8 kind, .string J, .int .u64 n, .int .u32 M, .string K, .string N, .slice I A.length H, .slice E D.length F] 34)) I H A P (fun x => !Pt.okB (kind == 3) x.p) w.heap.size Y.p l1 (qq Y.r) (qq (fun x hx u h => at6 x kind w.heap.size P u ((h.cell (p := ⟨w.heap.size, 0, none⟩) W.lt).trans ag) (jg W.lt h.size) ((Y.r x hx).pure h) (hT.pure (G.trans (h.mono G.size)))))
 rw [aua, ae] at c1
 have c2 := fun (u : World) (hS : Slc abc 2 u (.slice E D.length F) D) => awz u E F D (fun x => !Rf.okB x) hS l2 (qq (fun x hx v hv => at7 v x.q x.id))
 simp only [aua, z] at c2
 have ah := qq c1; have ak := qq c2
 clear c1 c2 ae z ag ac aa U Z l1 l2
 cases pb
 ·go_enter func80, ntmps80
  go_wp2_with (go_at_call 91; refine (ah.out).mono ?_; rintro e w2 ⟨rfl, O⟩; have X := G.trans (O.mono G.size)); go_ret; exact ⟨by rw [af.out]; rfl, X⟩
 ·go_enter func80, ntmps80
  go_wp2_with (first | (go_at_call 91; refine (ah.out).mono ?_; rintro e w2 ⟨rfl, O⟩; have X := G.trans (O.mono G.size); have A2 := W.pure O; have S2 := Y.s.pure O; obtain ⟨b0, b1, b2, b3, b4, b5, b6, b7⟩ := A2.a8) | (go_at_call 93; refine (ak.out _ S2).mono ?_; rintro e w3 ⟨rfl, ai⟩; have aj := X.trans (ai.mono X.size))); go_ret; exact ⟨by rw [af.out]; cases tb <;> rfl, aj⟩
end Go.Proofs.YtgnaifhmcllnlaaGreatDoor
