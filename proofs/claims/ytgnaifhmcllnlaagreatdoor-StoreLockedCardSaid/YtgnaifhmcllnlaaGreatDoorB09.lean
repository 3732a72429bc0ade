/- A message put into a queue: by place and by name. Conditions: none. (Texts joined.) -/
import Derived.Test.YtgnaifhmcllnlaaGreatDoorB08
set_option maxRecDepth 100000
set_option maxHeartbeats 12800000
set_option linter.unusedSimpArgs false
set_option linter.unusedVariables false
namespace Go.Proofs.YtgnaifhmcllnlaaGreatDoor
open Go.RowKit Go.Maps Tryz
theorem aul (S : Nat → Prop) (u : World) : Upd S u u.drew := (Upd.refl S u).drew
theorem alq {u D : World} {b : Nat} (h : u.grownBy D (some b)) : Upd (fun k => k = b) u D :=
 Upd.grown (S := fun k => k = b) h (fun k A => by injection A with A; exact A.symm)
theorem anq {l : List Rf} {r : Rf} : aem (l ++ [r]) = true ↔ aem l = true ∧ aa8 l r = 0 := by
 rw [ajl, ajl]
 constructor
 ·intro h
  refine ⟨fun i hi => ?_, ?_⟩
  ·have := h i (by simp; omega)
   rwa [List.getElem_append_left hi, List.take_append_of_le_length (by omega)] at this
  ·have := h l.length (by simp)
   simpa using this
 ·rintro ⟨A, D⟩ i hi
  rcases Nat.lt_or_ge i l.length with q | q
  ·rw [List.getElem_append_left q, List.take_append_of_le_length (by omega)]; exact A i q
  ·obtain rfl : i = l.length := by simp at hi; omega
   simpa using D
theorem axe {a b : List Rf} (h : aem (a ++ b) = true) : aem a = true := by
 rw [ajl] at *
 intro i hi
 have := h i (by rw [jz]; omega)
 rwa [List.getElem_append_left hi, List.take_append_of_le_length (by omega)] at this
theorem anr {l : List BrT} {i : Nat} (hi : i < l.length) : ace ((l.take (i + 1)).map BrT.b) = ace ((l.take i).map BrT.b) ++ l[i].zy := by
 rw [jx hi, List.map_append]
 unfold ace
 rw [List.flatMap_append]
 simp [BrT.b]
theorem ars (l : List BrT) (i : Nat) (hi : i < l.length) (k : Nat) : ∃ t, ace (l.map BrT.b) = (ace ((l.take i).map BrT.b) ++ l[i].zy.take k) ++ t := by
 refine ⟨l[i].zy.drop k ++ ace ((l.drop (i + 1)).map BrT.b), ?_⟩
 have e : ace (l.map BrT.b) = ace ((l.take (i + 1)).map BrT.b) ++ ace ((l.drop (i + 1)).map BrT.b) := by
  unfold ace; rw [← List.flatMap_append, ← List.map_append, List.take_append_drop]
 rw [e, anr hi]
 simp only [List.append_assoc]
 conv => lhs; rw [← List.take_append_drop k l[i].zy]
 simp only [List.append_assoc]
def art (qs : List Qu) (b : Br) : Bool := b.en.okB && b.zu.all (fun p => ad0 qs p.q) && b.zy.all (hasM qs)
theorem az1 {qs : List Qu} {l : List BrT} {i : Nat} (hi : i < l.length) (A : art qs l[i].b = false) : ane qs (l.map BrT.b) = false := by
 cases ho : ane qs (l.map BrT.b) with
 | false => rfl
 | true =>
  unfold ane at ho; simp only [jj] at ho; have h := ho.1.1; rw [jt] at h; have := h _ (jv.2 ⟨_, qy hi, rfl⟩); unfold art at A; rw [A] at this; cases this
theorem aum {qs : List Qu} {l : List BrT} {i : Nat} (hi : i < l.length) {k : Nat} (D : k < l[i].zy.length) (F : aa8 (ace ((l.take i).map BrT.b) ++ l[i].zy.take k) l[i].zy[k] ≠ 0) : ane qs (l.map BrT.b) = false := by
 cases ho : ane qs (l.map BrT.b) with
 | false => rfl
 | true =>
  unfold ane at ho; simp only [jj] at ho; have h := ho.1.2; obtain ⟨t, E⟩ := ars l i hi (k + 1); rw [E] at h; have A := axe h; rw [jx D, ← List.append_assoc, anq] at A; exact jp A.2 F
theorem az2 {qs : List Qu} {l : List BrT} (h : ∀ i, (hi : i < l.length) → art qs l[i].b = true) (A : aem (ace (l.map BrT.b)) = true) : ane qs (l.map BrT.b) = aia aav BrT.x l := by
 unfold ane
 have D : (l.map BrT.b).all (fun b => b.en.okB && b.zu.all (fun p => ad0 qs p.q) && b.zy.all (hasM qs)) = true := by
  exact ajv
 rw [D, A, Bool.true_and, Bool.true_and, Bool.eq_iff_iff, ad4 cmpX_ok, ad4 cmpX_ok]
 exact ad6 (c := aav) (k := Br.x) (g := BrT.b)
theorem aim (w : World) (D : Int) (A H : ByteArray) (J : Option Addr) (I G : Nat) (F : Option Addr) (E M : Nat) : Calls prog 73 #[.agg #[.int .u32 D, .string A, .string H, .slice J I G, .slice F E M]] w fun e W => e = .returned (.agg #[.int .u8 4, .string ⟨#[]⟩, .int .u64 0, .int .u32 D, .string A, .string H, .slice J I G, .slice F E M]) ∧ Below w.heap.size w W := by
 have z := aty; have zx := ahk
 have N := qq (((qz w.heap.size w).alloc (qj _) (.cells #[.int .u32 D, .string A, .string H, .slice J I G, .slice F E M] 62)).alloc (by simp) (.cells #[.int .u8 4, .string ⟨#[]⟩, .int .u64 0, .int .u32 D, .string A, .string H, .slice J I G, .slice F E M] 34))
 have K := qq (Blk.newE (w.alloc (.cells #[.int .u32 D, .string A, .string H, .slice J I G, .slice F E M] 62)) [.int .u8 4, .string ⟨#[]⟩, .int .u64 0, .int .u32 D, .string A, .string H, .slice J I G, .slice F E M] 34 (w.heap.size + 1) (by simp))
 go_enter func73, ntmps73
 go_wp2
 have K := K.out; have N := N.out
 obtain ⟨k0, k1, X, O, U, Z, Y, h⟩ := K.a8
 refine bodyPost_ret (by simp [results, Tryz.results73, go_sem, k0, k1, X, O, U, Z, Y, h]; rfl) rfl ?_
 exact ⟨rfl, N⟩
theorem ajw {P : Prop} (h : P := by
 refine aai 6 rfl (fun Kq hKq => ?_)
 go_simp
 refine hKq.out _ _ hb2 (fun zg => ?_)
 clear hKq Kq
 (try simp only [Act.put, lsT, lsZ, lsS])
 refine wpAnyH_done (by kernel_rfl) ?_ _
 have hpre := qq (show ace ((zk.take i).map BrT.b) ++ zy.take (k + 1) = (ace ((zk.take i).map BrT.b) ++ zy.take k) ++ [⟨q, id⟩] by rw [jx hkt, hxh2.out, List.append_assoc])
 have M4 : RefsM w5 mb (aib (ace ((zk.take i).map BrT.b) ++ zy.take (k + 1))) (if (aib (ace ((zk.take i).map BrT.b) ++ zy.take k) ⟨q, id⟩).isSome then cn else cn + 1) := M3.ext (fun x _ => by rw [hpre.out, ← axd, hcch.out, hwrh.out])
 have hcn3 := qq (show aa8 (ace ((zk.take i).map BrT.b) ++ zy.take (k + 1)) ⟨q, id⟩ = c + 1 by rw [hpre.out, aa6, hcch.out, acw, adb, qw (abt.2 rfl)])
 have hcn4 : (if (aib (ace ((zk.take i).map BrT.b) ++ zy.take k) ⟨q, id⟩).isSome then cn else cn + 1) ≤ 100 * i + (k + 1) := by split <;> omega
 generalize (if (aib (ace ((zk.take i).map BrT.b) ++ zy.take k) ⟨q, id⟩).isSome then cn else cn + 1) = cn' at M4 hcn4
 have N5 := N1.upd hb2 hne
 have hBU := hBu.trans (hAl.mono hBu.size)
 have hB5 : Below w.heap.size w w5 := hBU.trans (hb2.below hBU.size (fun b e => by have e : b = mb := e; have := hmwh.out; omega))
 have A5 := (A3.pure hAl).upd hb2 (fun e => by have e : w.heap.size = mb := e; have := hmwh.out; omega)
 have hU5 := (hU.trans (Upd.of_below (S := fun b => b = mb) hAl) (fun b e _ => e)).trans hb2 (fun b e _ => e)
 clear M1 M2 M3 hrun hrun2 hl1 hl2 hst hb hb1 hb2 hg1 hg2 N1 zg hU
 obtain ⟨d0, d1⟩ := N5.a2; obtain ⟨a0, a1, a2, a3⟩ := A5.a4
 cases mh
 ·have hz := qq (hbadb.out (by
   cases h : art QL (BrT.mk (xf, xg, xb) (.slice pa zu.length pc) (.slice (some ⟨g3, off3, none⟩) zy.length tc) zu zy).b with
   | false => rfl
   | true =>
    unfold art at h; simp only [jj, jt] at h; have := h.2 zy[k] (qy hkt)
    rw [hhm.out] at this; cases this))
  go_wp2_with (go_at_call 101; (with_reducible refine (hma1h.out _ hB5).mono ?_); rintro e w6 ⟨rfl, hB6⟩; have hF := hB5.trans (hB6.mono hB5.size); have M5 := M4.pure hB6; have N6 := N5.pure hB6; (clear d0 d1); obtain ⟨d0, d1⟩ := N6.a2; have hl3 := M5.look_run arr hokh2.out; simp only [ail, hcn3.out] at hl3; unfold kvR evN at hl3); go_ret; exact ⟨by rw [hz.out]; rfl, hF⟩
 by_cases hc0 : c = 0
 ·subst hc0
  have hon3 := qq (show aem (ace ((zk.take i).map BrT.b) ++ zy.take (k + 1)) = true by rw [hpre.out]; exact anq.2 ⟨hon2.out, hcch.out⟩)
  have htg2 := qq (show ∀ r ∈ zy.take (k + 1), hasM QL r = true from fun r hr => by
   rw [jx hkt] at hr; rcases List.mem_append.1 hr with hr | hr
   ·exact htg.out r hr
   ·rw [jc.1 hr]; exact hhm.out)
  go_wp2_with (go_at_call 101; (with_reducible refine (hma1h.out _ hB5).mono ?_); rintro e w6 ⟨rfl, hB6⟩; have hF := hB5.trans (hB6.mono hB5.size); have M5 := M4.pure hB6; have N6 := N5.pure hB6; (clear d0 d1); obtain ⟨d0, d1⟩ := N6.a2; have hl3 := M5.look_run arr hokh2.out; simp only [ail, hcn3.out] at hl3; unfold kvR evN at hl3); go_roundw
  case rel => exact ⟨k + 1, cn', by omega, by go_num, htg2, hon3, hU5.trans (Upd.of_below (S := fun b => b = mb) hB6) (fun b e _ => e), M5, hcn4⟩
  case measure => simp [intOf]; omega
 ·have hz := qq (show ane QL (zk.map BrT.b) = false from aum hlt (k := k) (by rw [hxh.out]; exact hkt) (by
   simp only [hxh.out, hxh2.out]
   rw [hcch.out]; exact hc0))
  have hc1 : (1 : Int) < (c : Int) + 1 := by omega
  have hc2 : decide ((1 : Int) < (c : Int) + 1) = true := qp hc1; have hc3 : (1 : Int) < ((c + 1 : Nat) : Int) := by omega
  go_wp2_with (go_at_call 101; (with_reducible refine (hma1h.out _ hB5).mono ?_); rintro e w6 ⟨rfl, hB6⟩; have hF := hB5.trans (hB6.mono hB5.size); have M5 := M4.pure hB6; have N6 := N5.pure hB6; (clear d0 d1); obtain ⟨d0, d1⟩ := N6.a2; have hl3 := M5.look_run arr hokh2.out; simp only [ail, hcn3.out] at hl3; unfold kvR evN at hl3); go_ret
  exact ⟨by rw [hz.out]; rfl, hF⟩) : P := h
theorem ans (cw : ayk) (w : World) (nx : Int) (H : Option Addr) (qc : Nat) (G : Option Addr) (F : Nat) (K : Option Addr) (N : Nat) (qs : List QuT) (zk : List BrT) (hs : List He) (P : Nat → Prop) (hR : QsRd P w (.slice H qs.length qc) qs) (aw : Slc aa7 5 w (.slice G zk.length F) zk) (bo : ∀ b ∈ zk, EnRd P w b.en) (hT : Tb w) (ae : QsOk qs) (cb : qsB nx (qs.map QuT.q) = true) (hL : zk.length ≤ 1000000) :
 Calls prog 48 #[.agg #[.int .u64 nx, .slice H qs.length qc, .slice G zk.length F, .slice K hs.length N]] w fun e w' => e = .returned (.bool (ane (qs.map QuT.q) (zk.map BrT.b))) ∧ Below w.heap.size w w' := by
 have cs := qq aw; have aj := qq bo; have cm := qq cb
 have df : (zk.length : Int) ≤ 1000000 := by omega
 have bi := (qz w.heap.size w).alloc (qj _) (.cells #[.int .u64 nx, .slice H qs.length qc, .slice G zk.length F, .slice K hs.length N] 27)
 have A1 := Blk.new w [.int .u64 nx, .slice H qs.length qc, .slice G zk.length F, .slice K hs.length N] 27
 have ce := fun (u : World) (h : Below w.heap.size w u) (y : ByteArray) => atQ u nx H qs.length qc G zk.length F K hs.length N qs y (hR.s.pure h) P (fun x D => (hR.m x D).pure h) ae.rq ae.lq
 have cf := fun (u : World) (h : Below w.heap.size w u) (q : ByteArray) (id : Int) => ag6 u nx H qc G zk.length F K hs.length N qs P q id (hR.pure h) ae
 have b7 := fun (u : World) (h : Below w.heap.size w u) => bdj u (.slice G zk.length F) zk (aw.pure h) P (fun x D => (bo x D).pure h) hL
 have cr := qq b7; have co := qq ce; have cu := qq cf
 obtain ⟨QL, bj⟩ := qx (qs.map QuT.q)
 have br := qq bj
 rw [bj]
 clear hR hL b7 aw bo ae cb ce cf bj
 have cx := @run_makeMap prog
 go_enter func48, ntmps48
 go_upto_region 2 with fail
 clear cx
 have M0 : RefsM ((w.alloc (.cells #[.int .u64 nx, .slice H qs.length qc, .slice G zk.length F, .slice K hs.length N] 27)).alloc (.map #[] 0)) (w.alloc (.cells #[.int .u64 nx, .slice H qs.length qc, .slice G zk.length F, .slice K hs.length N] 27)).heap.size (aib (ace ((zk.take 0).map BrT.b))) 0 := MapG.made (w.alloc (.cells #[.int .u64 nx, .slice H qs.length qc, .slice G zk.length F, .slice K hs.length N] 27))
 have X := A1.alloc (.map #[] 0)
 have aa := bi.alloc bi.size (.map #[] 0)
 have z : w.heap.size + 1 = (w.alloc (.cells #[.int .u64 nx, .slice H qs.length qc, .slice G zk.length F, .slice K hs.length N] 27)).heap.size := by simp
 rw [← z] at M0
 obtain ⟨mb, az⟩ := qx (w.heap.size + 1)
 rw [az] at M0 ⊢
 have cq := qq az
 generalize (w.alloc (.cells #[.int .u64 nx, .slice H qs.length qc, .slice G zk.length F, .slice K hs.length N] 27)).alloc (.map #[] 0) = w2 at M0 X aa ⊢
 clear A1 bi z az
 have a2 := X.at 2 rfl
 go_wp2
 clear a2
 go_loopw [19] (fun bn wr => ∃ i cnt : Nat, i ≤ zk.length ∧ bn = .int .i64 i ∧ Hid (∀ j, (h : j < zk.length) → j < i → art QL zk[j].b = true) ∧ Hid (aem (ace ((zk.take i).map BrT.b)) = true) ∧ Below w.heap.size w wr ∧ Blk wr w.heap.size [.int .u64 nx, .slice H qs.length qc, .slice G zk.length F, .slice K hs.length N] ∧ RefsM wr mb (aib (ace ((zk.take i).map BrT.b))) cnt ∧ cnt ≤ 100 * i) (fun bn _ => zk.length - (intOf bn).toNat)
 case atStart => exact ⟨0, 0, Nat.zero_le _, rfl, qq (fun j h h' => jp h' (by omega)), qq rfl, aa, X, M0, qj _⟩
 case round =>
  obtain ⟨i, cnt, hi, rfl, bu, ar, A, ag, M, dc⟩ := hrel; clear X aa M0; by_cases hlt : i < zk.length
  ·have Y := cs.out.pure A
   obtain ⟨g, off, rfl⟩ := Y.addrB hlt; obtain ⟨xf, xg, xb, pa, pc, E, tc, zu, zy, D, cg, b5, c0, c1, c2, c3, c4⟩ := adq Y hlt ((aj.out _ (qy hlt)).pure A); have J := qq (show EnRd P wr (BrT.mk (xf, xg, xb) (.slice pa zu.length pc) (.slice E zy.length tc) zu zy).en by have h := (aj.out _ (qy hlt)).pure A; rw [D] at h; exact h); have hbadb := qq (fun (h : art QL (BrT.mk (xf, xg, xb) (.slice pa zu.length pc) (.slice E zy.length tc) zu zy).b = false) => show ane QL (zk.map BrT.b) = false from az1 hlt (by rw [D]; exact h)); have de : (zu.length : Int) ≤ 9223372036854775807 := by unfold maxLen at cg; omega
   have db : (zy.length : Int) ≤ 9223372036854775807 := by unfold maxLen at b5; omega
   have hxh := qq D; clear D cg b5 Y; go_upto_region 5 with fail; have Q0 := Blk.new wr [.int .u32 xf, .string xg, .string xb, .slice pa zu.length pc, .slice E zy.length tc] 62; have hAl := (qz wr.heap.size wr).alloc (qj _) (.cells #[.int .u32 xf, .string xg, .string xb, .slice pa zu.length pc, .slice E zy.length tc] 62); have Ar := ag.pure hAl; have O := A.trans (hAl.mono A.size); have Mr := M.pure hAl; have J := qq (J.out.pure hAl); have ch := M.lt; have cc := ag.lt; generalize wr.heap.size = qb at Q0 ch cc ⊢; generalize wr.alloc (.cells #[.int .u32 xf, .string xg, .string xb, .slice pa zu.length pc, .slice E zy.length tc] 62) = u at Q0 Ar O Mr J ⊢; clear c0 c1 c2 c3 c4 hAl ag M A ch cc; obtain ⟨b0, b1, b2, b3, b4⟩ := Q0.a5; obtain ⟨ck, an⟩ := qx ((BrT.mk (xf, xg, xb) (.slice pa zu.length pc) (.slice E zy.length tc) zu zy).en.e.chk); have bw : ∀ (v : World), Below u.heap.size u v → Calls prog 27 #[.agg #[.int .u8 4, .string ⟨#[]⟩, .int .u64 0, .int .u32 xf, .string xg, .string xb, .slice pa zu.length pc, .slice E zy.length tc]] v fun e w' => e = .returned (.int .i64 ck) ∧ Below v.heap.size v w' := fun v h => by rw [← an]; exact cw (BrT.mk (xf, xg, xb) (.slice pa zu.length pc) (.slice E zy.length tc) zu zy).en P v (J.out.pure h) ((hT.pure O).pure h)
   have ah := qq bw; have bq := qq an; clear bw an; by_cases hc0 : ck = 0
   rotate_left 1
   ·have hz := qq (hbadb.out (by
     unfold art
     have : (BrT.mk (xf, xg, xb) (.slice pa zu.length pc) (.slice E zy.length tc) zu zy).b.en.okB = false := by
      cases h : (BrT.mk (xf, xg, xb) (.slice pa zu.length pc) (.slice E zy.length tc) zu zy).b.en.okB with
      | false => rfl
      | true => exact jp (bq.out.symm.trans (bbm.2 h)) hc0
     rw [this]; rfl))
    have hc1 : (ck != 0) = true := bne_iff_ne.2 hc0; go_wp2_with (first | (go_at_call 73; (with_reducible refine (aim _ xf xg xb pa zu.length pc E zy.length tc).mono ?_); rintro e w3 ⟨rfl, W⟩) | (go_at_call 27; (with_reducible refine (ah.out _ W).mono ?_); rintro e w4 ⟨rfl, af⟩; have hF := (O.trans (W.mono O.size)).trans (af.mono (jk O.size W.size)))); go_ret; exact ⟨by rw [hz.out]; rfl, hF⟩
   subst hc0; have bx := qq (show (BrT.mk (xf, xg, xb) (.slice pa zu.length pc) (.slice E zy.length tc) zu zy).b.en.okB = true from bbm.1 bq.out); have ai := qq (ame bx.out); go_upto_region 7 with (first | (go_at_call 73; (with_reducible refine (aim _ xf xg xb pa zu.length pc E zy.length tc).mono ?_); rintro e w3 ⟨rfl, W⟩) | (go_at_call 27; (with_reducible refine (ah.out _ W).mono ?_); rintro e w4 ⟨rfl, af⟩; have hF := W.trans (af.mono W.size))); have Q1 := Q0.pure hF; have A1 := Ar.pure hF; have M1 := Mr.pure hF; have J := qq (J.out.pure hF); have bm := O.trans (hF.mono O.size); clear b0 b1 b2 b3 b4 Q0 Ar Mr O W af hF ah; have b3 := Q1.at 3 rfl; go_wp2; clear b3; go_loopw [30] (fun ax wr => ∃ k : Nat, k ≤ zu.length ∧ ax = .int .i64 k ∧ Hid (∀ p ∈ zu.take k, ad0 QL p.q = true) ∧ Below w4.heap.size w4 wr) (fun ax _ => zu.length - (intOf ax).toNat)
   case atStart => exact ⟨0, Nat.zero_le _, rfl, qq (fun p I => by simp at I), qz _ _⟩
   case round =>
    obtain ⟨k, hk, rfl, bf, A⟩ := hrel; have Z := bm.trans (A.mono bm.size); have X := A1.pure A; by_cases hkt : k < zu.length
    ·have am := J.out.pure A
     have Y : Slc aat 12 wr (.slice pa zu.length pc) zu := am.p; have b9 := am.r zu[k] (qy hkt); obtain ⟨g2, ct, rfl⟩ := Y.addrB hkt; obtain ⟨q, id, key, bh, red, mid, uk, un, us, bk, bl, au, ay, ao, ul, al, D, c0, c1, c2, c3, c4, c5, c6, c7, c8, c9, cv, cy⟩ := ad5 Y hkt b9; have hq : zu[k].q = q := by rw [D]
     have cl : (k : Int) < (zu.length : Int) := by omega
     have ak := fun (v : World) (h : Below wr.heap.size wr v) => co.out v (Z.trans (h.mono Z.size)) q
     obtain ⟨hh, bd⟩ := qx (acv abf QuT.name qs q); rw [bd] at ak; have cd := qq (show ad0 QL zu[k].q = hh by rw [hq, ← br.out, ← anm]; exact bd); have bp := qq ak; clear Y b9 am D hq ak bd; go_upto_region 10 with fail; have hAl := (qz wr.heap.size wr).alloc (qj _) (.cells #[.string q, .int .u64 id, .string key, .bool bh, .bool red, .string mid, .int .u8 uk, .int .u64 un, .string us, .slice bk ao.length bl, .slice au ul.length ay, .string al] 64); have N0 := Blk.new wr [.string q, .int .u64 id, .string key, .bool bh, .bool red, .string mid, .int .u8 uk, .int .u64 un, .string us, .slice bk ao.length bl, .slice au ul.length ay, .string al] 64; have A3 := X.pure hAl; generalize wr.alloc (.cells #[.string q, .int .u64 id, .string key, .bool bh, .bool red, .string mid, .int .u8 uk, .int .u64 un, .string us, .slice bk ao.length bl, .slice au ul.length ay, .string al] 64) = u5 at N0 A3 hAl ⊢; generalize wr.heap.size = nb at N0 ⊢; have n0 := N0.at 0 rfl; obtain ⟨a0, a1, a2, a3⟩ := A3.a4; clear c0 c1 c2 c3 c4 c5 c6 c7 c8 c9 cv cy; cases hh
     ·have hz := qq (hbadb.out (by
       cases h : art QL (BrT.mk (xf, xg, xb) (.slice (some ⟨g2, ct, none⟩) zu.length pc) (.slice E zy.length tc) zu zy).b with
       | false => rfl
       | true =>
        unfold art at h; simp only [jj, jt] at h; have := h.1.2 zu[k].p (jv.2 ⟨_, qy hkt, rfl⟩); have e : ad0 QL zu[k].p.q = false := cd.out
        rw [e] at this; cases this))
      go_wp2_with (go_at_call 88; (with_reducible refine (bp.out _ hAl).mono ?_); rintro e w6 ⟨rfl, hB6⟩; have hF := Z.trans ((hAl.trans (hB6.mono hAl.size)).mono Z.size)); go_ret; exact ⟨by rw [hz.out]; rfl, hF⟩
     ·have cp := qq (show ∀ p ∈ zu.take (k + 1), ad0 QL p.q = true from fun p I => by
       rw [jx hkt] at I; rcases List.mem_append.1 I with I | I
       ·exact bf.out p I
       ·rw [jc.1 I]; exact cd.out)
      go_wp2_with (go_at_call 88; (with_reducible refine (bp.out _ hAl).mono ?_); rintro e w6 ⟨rfl, hB6⟩; have hF := A.trans ((hAl.trans (hB6.mono hAl.size)).mono A.size)); go_roundw
      case rel => exact ⟨k + 1, by omega, by go_num, cp, hF⟩
      case measure => simp [intOf]; omega
    ·obtain rfl : k = zu.length := by omega
     rw [js] at bf; have M2 := M1.pure A; have Q2 := Q1.pure A; have J := qq (J.out.pure A); have b4 := Q2.at 4 rfl; go_upto_region 14 with fail; clear A bm A1 Q1 M1; go_wp2; clear b4; obtain ⟨wp, b8⟩ := zj wr; rw [← b8] at M2 Q2 X J Z ⊢; clear b8; go_loopw [47] (fun aq wr => ∃ k cn : Nat, k ≤ zy.length ∧ aq = .int .i64 k ∧ Hid (∀ r ∈ zy.take k, hasM QL r = true) ∧ Hid (aem (ace ((zk.take i).map BrT.b) ++ zy.take k) = true) ∧ Upd (fun b => b = mb) wp wr ∧ RefsM wr mb (aib (ace ((zk.take i).map BrT.b) ++ zy.take k)) cn ∧ cn ≤ 100 * i + k) (fun aq _ => zy.length - (intOf aq).toNat)
     case atStart => exact ⟨0, cnt, Nat.zero_le _, rfl, qq (fun p I => by simp at I), qq (by rw [List.take_zero, List.append_nil]; exact ar.out), Upd.refl _ _, by rw [List.take_zero, List.append_nil]; exact M2, by omega⟩
     case round =>
      obtain ⟨k, cn, hk, rfl, htg, hon2, hU, M, da⟩ := hrel; clear M2; have z : mb = w.heap.size + 1 := cq.out.symm; have hmwh := qq z; clear z; have A3 := X.upd hU (fun e => by have e : w.heap.size = mb := e; have := hmwh.out; omega); have hBu := Z.trans (hU.below Z.size (fun b e => by have e : b = mb := e; have := hmwh.out; omega)); by_cases hkt : k < zy.length
      ·have ac := J.out.wf.t zy[k] (qy hkt)
       have bb : Slc abc 2 wr (.slice E zy.length tc) zy := by
        have h0 := (aj.out _ (qy hlt)).s.pure hBu; rw [hxh.out] at h0; exact h0
       obtain ⟨g3, off3, rfl⟩ := bb.addrB hkt; obtain ⟨q, id, D, c0, c1⟩ := ado bb hkt; have ab := (ai.out).2.2.2.2 zy[k] (qy hkt); have ci : zy.length ≤ 100 := (ai.out).2.2.1
       have bt : okR ⟨q, id⟩ := by
        rw [D] at ac ab; unfold Rf.okB at ab; rw [jj] at ab; exact ⟨jk (bbn ab.1) (by unfold maxLen; omega), ac.1, ac.2⟩
       have ad := fun (v : World) (h : Below w.heap.size w v) => cu.out v h q id
       obtain ⟨mp, bg⟩ := qx (aqg qs ⟨q, id⟩); obtain ⟨m1, m2, mh⟩ := mp; rw [bg] at ad; dsimp only at ad; have hhm := qq (show hasM QL zy[k] = mh by rw [D, ← br.out, ← aqh cm.out, bg]); obtain ⟨c, av⟩ : ∃ c : Nat, aa8 (ace ((zk.take i).map BrT.b) ++ zy.take k) ⟨q, id⟩ = c := ⟨_, rfl⟩
       have dg : c ≤ 1 := by rw [← av]; exact amd hon2.out _
       have hma1h := qq ad; have hcch := qq av; have hxh2 := qq D; have hokh2 := qq bt; have cl : (k : Int) < (zy.length : Int) := by omega
       have dd : i ≤ 1000000 := by omega
       clear bb D ac ab bg ad av bt; go_upto_region 17 with fail; have N1 := Blk.new wr [.string q, .int .u64 id] 68; have hAl := (qz wr.heap.size wr).alloc (qj _) (.cells #[.string q, .int .u64 id] 68); have hne : wr.heap.size ≠ mb := fun e => by have := M.lt; omega
       have M1 := M.pure hAl; generalize wr.heap.size = nb at N1 hne ⊢; generalize wr.alloc (.cells #[.string q, .int .u64 id] 68) = U at N1 hAl M1 ⊢; clear c0 c1 M; have hb := aul (fun k => k = mb) U; refine wp_region_held_drew (S := fun v => Upd (fun k => k = mb) U v) (by kernel_rfl) hb (fun zg => ?_); refine tkH 0 zg ?_; refine tkF 1 zg ?_ (fun v cz => (N1.upd cz hne).a2); obtain ⟨st, w1, hrun, M2, hg1, hst⟩ := (M1.drew).entry_run arr refs_law (by unfold maxLen; omega) hokh2.out; obtain ⟨w5, hrun2, M3, hg2⟩ := hst (IntKind.i64.wrap ((c : Int) + 1)); have ca : IntKind.i64.wrap ((c : Int) + 1) = (c : Int) + 1 := by rw [IntKind.wrap_i64]; omega
       have hl1 := (M1.drew).look_run arr hokh2.out; have hl2 := M2.look_run arr hokh2.out; rw [qw rfl] at hl2; simp only [ail, hcch.out, Option.getD_some] at hrun hl1 hl2; unfold kvR evN at hrun hl1 hl2; unfold evN at hrun2; have hwrh := qq ca; clear ca; have hb1 : Upd (fun k => k = mb) U w1 := hb.trans (alq hg1) (fun _ h _ => h); have hb2 : Upd (fun k => k = mb) U w5 := hb.trans (alq hg2) (fun _ h _ => h); refine wpAnyH_ready (rs := [2, 4]) (by kernel_rfl) (by simp) ?_; refine AllReadyH.cons rfl (fun Kq hKq => ?_) (AllReadyH.cons rfl (fun Kq hKq => ?_) AllReadyH.nil)
       ·go_simp
        refine hKq.out _ _ hb (fun zg => ?_); clear hKq Kq; (try simp only [Act.put, lsT, lsZ, lsS]); refine tkH 3 zg ?_; refine aai 4 rfl (fun Kq hKq => ?_); go_simp; refine hKq.out _ _ hb1 (fun zg => ?_); clear hKq Kq; (try simp only [Act.put, lsT, lsZ, lsS]); refine tkH 5 zg ?_; exact ajw
       ·go_simp
        refine hKq.out _ _ hb1 (fun zg => ?_); clear hKq Kq; (try simp only [Act.put, lsT, lsZ, lsS]); refine tkH 5 zg ?_; refine aai 2 rfl (fun Kq hKq => ?_); go_simp; refine hKq.out _ _ hb1 (fun zg => ?_); clear hKq Kq; (try simp only [Act.put, lsT, lsZ, lsS]); refine tkH 3 zg ?_; exact ajw
      ·obtain rfl : k = zy.length := by omega
       rw [js] at htg hon2 M
       have hb1 := qq (show art QL zk[i].b = true by
        rw [hxh.out]; unfold art; rw [bx.out]; simp only [Bool.true_and, jj, jt]; refine ⟨fun p I => ?_, fun r hr => htg.out r hr⟩; obtain ⟨t, ht, rfl⟩ := jv.1 I
        exact bf.out t ht)
       have cj := qq (show ∀ j, (h : j < zk.length) → j < i + 1 → art QL zk[j].b = true from fun j h hj => by
        rcases Nat.lt_or_ge j i with q | q
        ·exact bu.out j h q
        ·obtain rfl : j = i := by omega
         exact hb1.out)
       have b6 := qq (show ace ((zk.take (i + 1)).map BrT.b) = ace ((zk.take i).map BrT.b) ++ zy by rw [anr hlt, hxh.out]); have hon3 := qq (show aem (ace ((zk.take (i + 1)).map BrT.b)) = true by rw [b6.out]; exact hon2.out); have ci : zy.length ≤ 100 := (ai.out).2.2.1; go_wp2; go_roundw
       case rel => exact ⟨i + 1, cn, by omega, by go_num, cj, hon3, hBu, A3, by rw [b6.out]; exact M, by omega⟩
       case measure => simp [intOf]; omega
  ·obtain rfl : i = zk.length := by omega
   rw [js] at ar; have hz := qq (az2 (qs := QL) (l := zk) (fun j h => bu.out j h h) ar.out); have a2 := ag.at 2 rfl; go_wp2_with (go_at_call 115; (with_reducible refine (cr.out _ A).mono ?_); rintro e w2 ⟨rfl, aa⟩; have hF := A.trans (aa.mono A.size)); go_ret; exact ⟨by rw [hz.out]; rfl, hF⟩
structure StSm (t : StT) : Prop where
 q : t.qs.length ≤ 1000000
 m : ∀ q ∈ t.qs, q.zw.length ≤ 1000000
 b : t.zk.length ≤ 1000000
 h : t.hs.length ≤ 1000000
theorem StSm.ok {t : StT} (h : StSm t) {n : Int} (A : qsB n (t.qs.map QuT.q) = true) : QsOk t.qs := ⟨awq A, fun q D => bd3 A D, h.q, h.m⟩
theorem bb2 {s : St} (h : s.okB = false) : s.chk = 140 := by unfold St.chk; rw [h]; rfl
theorem ajx (br : ayk) (w : World) (t : StT) (P : Nat → Prop) (M : StRd P w t) (hT : Tb w) (U : StSm t) :
 Calls prog 15 #[t.arg] w fun e w' => e = .returned (.int .i64 t.s.chk) ∧ Below w.heap.size w w' := by
 obtain ⟨nx, z, qc, ba, Z, W, X, qs, zk, hs, rfl, -, -, -⟩ := M.open
 rw [StT.arg_mk]
 have E := (qz w.heap.size w).alloc (qj _) (.cells #[.int .u64 nx, .slice z qs.length qc, .slice ba zk.length Z, .slice W hs.length X] 27)
 have A1 := Blk.new w [.int .u64 nx, .slice z qs.length qc, .slice ba zk.length Z, .slice W hs.length X] 27
 have ao := fun (h : nx ≤ 1099511627777) (u : World) (N : Below w.heap.size w u) => arn br u nx z qc ba zk.length Z W hs.length X qs P (M.qs.pure N) (hT.pure N) ⟨U.q, U.m⟩ h
 have ag := fun (h : qsB nx (qs.map QuT.q) = true) (u : World) (N : Below w.heap.size w u) => ans br u nx z qc ba Z W X qs zk hs P (M.qs.pure N) (M.b.pure N) (fun x hx => (M.e x hx).pure N) (hT.pure N) (U.ok h) h U.b
 have ax := fun (u : World) (h : Below w.heap.size w u) => bdl u (.slice W hs.length X) hs (M.h.pure h) U.h
 have bu := fun (h : RisK aav BrT.x zk) (u : World) (N : Below w.heap.size w u) (yf : Int) (yg yb : ByteArray) => atB u nx z qs.length qc ba zk.length Z W hs.length X zk yf yg yb (M.b.pure N) P (fun x hx => (M.e x hx).pure N) h U.b
 have ak : (StT.mk nx (.slice z qs.length qc) (.slice ba zk.length Z) (.slice W hs.length X) qs zk hs).s.okB = (decide (1 ≤ nx) && decide (nx ≤ 1099511627777) && qsB nx (qs.map QuT.q) && ane (qs.map QuT.q) (zk.map BrT.b) && hsB (zk.map BrT.b) hs) := rfl
 obtain ⟨S, bt⟩ := qx ((StT.mk nx (.slice z qs.length qc) (.slice ba zk.length Z) (.slice W hs.length X) qs zk hs).s)
 rw [bt] at ak ⊢
 obtain ⟨b1, au⟩ := qx (qsB nx (qs.map QuT.q))
 obtain ⟨b2, al⟩ : ∃ b, ane (qs.map QuT.q) (zk.map BrT.b) = b := ⟨_, rfl⟩
 obtain ⟨b3, aw⟩ := qx (aia aav He.x hs)
 have bq := qq (fun (h : b2 = true) => bd4 (qs := qs.map QuT.q) (l := zk) (al.trans h))
 have bi := qq (show hsB (zk.map BrT.b) hs = (hs.all (fun h => Xn.okB h.x && !amu (zk.map BrT.b) h.x) && b3) by unfold hsB; rw [aw])
 rw [au, al] at ak
 rw [au] at ao ag
 rw [al] at ag
 rw [aw] at ax
 have bk := qq ao; have bj := qq ag; have ar := qq ax; have bl := qq bu; have aa := qq ak
 have b4 := qq M.h
 have b6 : (hs.length : Int) ≤ 1000000 := by have := U.h; show (hs.length : Int) ≤ _; have h : hs.length ≤ 1000000 := U.h; omega
 obtain ⟨D, A, a2, a3⟩ := A1.a4
 clear ao ag ax bu ak bt au al aw M U
 have ab := qq (fun (h : S.okB = false) => bb2 h)
 by_cases h1 : nx < 1
 ·have F := qq (ab.out (by rw [aa.out, qg (by omega)]; rfl))
  have hd : decide (nx < 1) = true := qp h1; go_enter func15, ntmps15; go_wp2; go_ret; exact ⟨by rw [F.out]; rfl, E⟩
 have hd1 : decide (nx < 1) = false := qg h1
 by_cases h2 : 1099511627777 < nx
 ·have F := qq (ab.out (by rw [aa.out, qg (show ¬ nx ≤ 1099511627777 by omega)]; simp))
  have hd : decide (1099511627777 < nx) = true := qp h2; go_enter func15, ntmps15; go_wp2; go_ret; exact ⟨by rw [F.out]; rfl, E⟩
 have hd2 : decide (1099511627777 < nx) = false := qg h2
 have ad := qq (bk.out (by omega))
 clear bk
 cases b1
 ·have F := qq (ab.out (by rw [aa.out]; simp))
  go_enter func15, ntmps15; go_wp2_with (go_at_call 47; (with_reducible refine (ad.out _ E).mono ?_); rintro e w2 ⟨rfl, H⟩; have G := E.trans (H.mono E.size); have I := A1.pure H; (clear D A a2 a3); obtain ⟨D, A, a2, a3⟩ := I.a4); go_ret; exact ⟨by rw [F.out]; rfl, G⟩
 have ah := qq (bj.out rfl)
 clear bj
 cases b2
 ·have F := qq (ab.out (by rw [aa.out]; simp))
  go_enter func15, ntmps15; go_wp2_with (first | (go_at_call 47; (with_reducible refine (ad.out _ E).mono ?_); rintro e w2 ⟨rfl, H⟩; have G := E.trans (H.mono E.size); have I := A1.pure H; (clear D A a2 a3); obtain ⟨D, A, a2, a3⟩ := I.a4) | (go_at_call 48; (with_reducible refine (ah.out _ G).mono ?_); rintro e w3 ⟨rfl, O⟩; have K := G.trans (O.mono G.size); have A3 := I.pure O; (clear D A a2 a3); obtain ⟨D, A, a2, a3⟩ := A3.a4)); go_ret; exact ⟨by rw [F.out]; rfl, K⟩
 have b0 := qq (bl.out (bq.out rfl))
 clear bl
 cases b3
 ·have F := qq (ab.out (by rw [aa.out, bi.out]; simp))
  go_enter func15, ntmps15; go_wp2_with (first | (go_at_call 47; (with_reducible refine (ad.out _ E).mono ?_); rintro e w2 ⟨rfl, H⟩; have G := E.trans (H.mono E.size); have I := A1.pure H; (clear D A a2 a3); obtain ⟨D, A, a2, a3⟩ := I.a4) | (go_at_call 48; (with_reducible refine (ah.out _ G).mono ?_); rintro e w3 ⟨rfl, O⟩; have K := G.trans (O.mono G.size); have A3 := I.pure O; (clear D A a2 a3); obtain ⟨D, A, a2, a3⟩ := A3.a4) | (go_at_call 49; (with_reducible refine (ar.out _ K).mono ?_); rintro e w4 ⟨rfl, ac⟩; have aj := K.trans (ac.mono K.size); have A4 := A3.pure ac; (clear D A a2 a3); obtain ⟨D, A, a2, a3⟩ := A4.a4)); go_ret; exact ⟨by rw [F.out]; rfl, aj⟩
 have bn := qq (show S.okB = hs.all (fun h => Xn.okB h.x && !amu (zk.map BrT.b) h.x) by rw [aa.out, bi.out, qp (show 1 ≤ nx by omega), qp (show nx ≤ 1099511627777 by omega)]; simp)
 go_enter func15, ntmps15
 go_upto_region 4 with (first | (go_at_call 47; (with_reducible refine (ad.out _ E).mono ?_); rintro e w2 ⟨rfl, H⟩; have G := E.trans (H.mono E.size); have I := A1.pure H; (clear D A a2 a3); obtain ⟨D, A, a2, a3⟩ := I.a4) | (go_at_call 48; (with_reducible refine (ah.out _ G).mono ?_); rintro e w3 ⟨rfl, O⟩; have K := G.trans (O.mono G.size); have A3 := I.pure O; (clear D A a2 a3); obtain ⟨D, A, a2, a3⟩ := A3.a4) | (go_at_call 49; (with_reducible refine (ar.out _ K).mono ?_); rintro e w4 ⟨rfl, ac⟩; have aj := K.trans (ac.mono K.size); have A4 := A3.pure ac; (clear D A a2 a3); obtain ⟨D, A, a2, a3⟩ := A4.a4))
 clear h1 h2 hd1 hd2 D A a2 a3 A1 I A3 E H O ac G K ad ah ar aa bi bq
 go_loopw [34] (fun ay wr => ∃ k : Nat, k ≤ hs.length ∧ ay = .int .i64 k ∧ Hid (∀ j, (h : j < hs.length) → j < k → (Xn.okB hs[j].x && !amu (zk.map BrT.b) hs[j].x) = true) ∧ Below w.heap.size w wr ∧ Blk wr w.heap.size [.int .u64 nx, .slice z qs.length qc, .slice ba zk.length Z, .slice W hs.length X]) (fun ay _ => hs.length - (intOf ay).toNat)
 case atStart => exact ⟨0, Nat.zero_le _, rfl, qq (fun j h h' => jp h' (by omega)), aj, A4⟩
 case round =>
  obtain ⟨k, hk, rfl, bm, hB, bw⟩ := hrel; clear aj A4; by_cases az : k < hs.length
  ·have b5 : (k : Int) < (hs.length : Int) := by omega
   have av := b4.out.pure hB; obtain ⟨g, off, rfl⟩ := av.addrB az; obtain ⟨xf, xg, xb, bf, hx, c0, c1, c2, c3⟩ := agb av az; have aq := fun (u : World) (h : Below w.heap.size w u) => b0.out u h xf xg xb
   obtain ⟨ih, bd⟩ := qx (acv aav BrT.x zk (xf, xg, xb)); rw [bd] at aq; have bh := fun (u : World) => ayj u xf xg xb
   obtain ⟨xo, bb⟩ := qx (Xn.okB (xf, xg, xb)); rw [bb] at bh; have bp := qq (show (Xn.okB hs[k].x && !amu (zk.map BrT.b) hs[k].x) = (xo && !ih) by rw [hx, ← bbt, bd, bb])
   have bo := qq (fun (h : (xo && !ih) = false) => show S.chk = 140 from ab.out (by
    rw [bn.out, List.all_eq_false]
    exact ⟨hs[k], qy az, by rw [bp.out, h]; simp⟩))
   have an := qq aq; have ai := qq bh; clear av hx aq bh bd bb; go_upto_region 6 with fail; have af := Blk.new wr [.int .u32 xf, .string xg, .string xb, .bool bf] 90; have bg := (qz wr.heap.size wr).alloc (qj _) (.cells #[.int .u32 xf, .string xg, .string xb, .bool bf] 90); have J := hB.trans (bg.mono hB.size); have Au := bw.pure bg; generalize wr.heap.size = nb at af ⊢; generalize wr.alloc (.cells #[.int .u32 xf, .string xg, .string xb, .bool bf] 90) = u at af J Au ⊢; clear c0 c1 c2 c3 bg hB bw; obtain ⟨n0, n1, n2⟩ := af.a3; obtain ⟨D, A, a2, a3⟩ := Au.a4; cases ih
   rotate_left 1
   ·have F := qq (bo.out (by simp))
    go_wp2_with (go_at_call 52; (with_reducible refine (an.out _ J).mono ?_); rintro e w5 ⟨rfl, Y⟩; have hF := J.trans (Y.mono J.size)); go_ret; exact ⟨by rw [F.out]; rfl, hF⟩
   cases xo
   ·have F := qq (bo.out (by simp))
    simp only [Bool.false_eq_true, if_false] at ai; go_wp2_with (first | (go_at_call 52; (with_reducible refine (an.out _ J).mono ?_); rintro e w5 ⟨rfl, Y⟩; have ae := J.trans (Y.mono J.size); have N5 := af.pure Y; (clear n0 n1 n2); obtain ⟨n0, n1, n2⟩ := N5.a3) | (go_at_call 53; (with_reducible refine (ai.out _).mono ?_); rintro e w6 ⟨rfl, am⟩; have hF := ae.trans (am.mono ae.size))); go_ret; exact ⟨by rw [F.out]; rfl, hF⟩
   ·simp only [if_true] at ai
    have bx := qq (show ∀ j, (h : j < hs.length) → j < k + 1 → (Xn.okB hs[j].x && !amu (zk.map BrT.b) hs[j].x) = true from fun j h hj => by
     rcases Nat.lt_or_ge j k with q | q
     ·exact bm.out j h q
     ·obtain rfl : j = k := by omega
      rw [bp.out]; rfl)
    go_wp2_with (first | (go_at_call 52; (with_reducible refine (an.out _ J).mono ?_); rintro e w5 ⟨rfl, Y⟩; have ae := J.trans (Y.mono J.size); have N5 := af.pure Y; (clear n0 n1 n2); obtain ⟨n0, n1, n2⟩ := N5.a3) | (go_at_call 53; (with_reducible refine (ai.out _).mono ?_); rintro e w6 ⟨rfl, am⟩; have hF := ae.trans (am.mono ae.size))); have A6 := (Au.pure Y).pure am; go_roundw
    case rel => exact ⟨k + 1, by omega, by go_num, bx, hF, A6⟩
    case measure => simp [intOf]; omega
  ·obtain rfl : k = hs.length := by omega
   have F := qq (show S.chk = 0 from awg.2 (by
    rw [bn.out, jt]; intro h hh; obtain ⟨j, hj, rfl⟩ := List.getElem_of_mem hh
    exact bm.out j hj hj))
   go_wp2; go_ret; exact ⟨by rw [F.out]; rfl, hB⟩
open Go.RowKit Tryz
def aam (w : World) (g o : Nat) : List Value → World
 | [] => w
 | v :: vs => aam (w.setCell ⟨g, o, none⟩ v) g (o + 1) vs
def setL (l : List Value) (o : Nat) : List Value → List Value
 | [] => l
 | v :: vs => setL (l.set o v) (o + 1) vs
theorem ab6 (g : Nat) : ∀ (A : List Value) (o : Nat) (w : World), Upd (fun b => b = g) w (aam w g o A)
 | [], o, w => Upd.refl _ _
 | v :: A, o, w => (aba (S := fun b => b = g) (Upd.refl (fun b => b = g) w) g o v rfl).trans (ab6 g A (o + 1) _) (fun _ h _ => h)
theorem Own.as {E F : Type} {base m : Nat} {e : TypeId} {enc : E → List Value} {D : F → List Value} {w : World} {v : Value} {L : List E} {A : List F} (h : Own base e m enc w v L) (H : A.length = L.length) (G : A.flatMap D = L.flatMap enc) : Own base e m D w v A := by
 unfold Own at *; rw [H, G]; exact h
theorem Own.sets {J : Type} {base m : Nat} {e : TypeId} {enc : J → List Value} (G : ∀ x, (enc x).length = m) {w : World} {g n E : Nat} {L : List J} (h : Own base e m enc w (.slice (some ⟨g, 0, none⟩) n E) L) (k : Nat) (D : k < L.length) (j : Nat) (A : List Value) (I : j + A.length ≤ m) (H : J) (U : enc H = setL (enc L[k]) j A) :
 Own base e m enc (aam w g (k * m + j) A) (.slice (some ⟨g, 0, none⟩) n E) (L.set k H) := by
 let R := { l : List Value // l.length = m }
 have O : ∀ x : R, x.val.length = m := fun x => x.property
 have key : ∀ (A : List Value) (j : Nat) (w : World) (M : List R) (D : k < M.length), j + A.length ≤ m → Own base e m Subtype.val w (.slice (some ⟨g, 0, none⟩) n E) M → ∃ y : R, y.val = setL (M[k]).val j A ∧ Own base e m Subtype.val (aam w g (k * m + j) A) (.slice (some ⟨g, 0, none⟩) n E) (M.set k y) := by
  intro A
  induction A with
  | nil => intro j w M D _ F; exact ⟨M[k], rfl, by rw [List.set_getElem_self]; exact F⟩
  | cons v A ih =>
   intro j w M D I F; simp only [jn] at I; have W := F.set O k D j v ⟨(M[k]).val.set j v, by rw [List.length_set]; exact (M[k]).property⟩ (by omega) rfl; have N : k < (M.set k ⟨(M[k]).val.set j v, by rw [List.length_set]; exact (M[k]).property⟩).length := by rw [List.length_set]; exact D
   obtain ⟨y, hy, K⟩ := ih (j + 1) _ _ N (by omega) W; refine ⟨y, ?_, ?_⟩
   ·rw [hy, List.getElem_set_self]; rfl
   ·rw [List.set_set] at K; exact K
 have X : Own base e m Subtype.val w (.slice (some ⟨g, 0, none⟩) n E) (L.map (fun x => (⟨enc x, G x⟩ : R))) := h.as (by simp) (by rw [List.flatMap_map])
 obtain ⟨y, hy, F⟩ := key A j w _ (by simpa using D) I X
 refine F.as (by simp) ?_
 have e : (L.map (fun x => (⟨enc x, G x⟩ : R))).set k y = (L.set k H).map (fun x => (⟨enc x, G x⟩ : R)) := by
  rw [List.map_set]; congr 1; apply Subtype.ext; rw [hy, zq]; exact U.symm
 rw [e, List.flatMap_map]
structure OwL {α : Type} (e : TypeId) (m : Nat) (enc : α → List Value) (app : α → VT) (B : Nat) (w : World) (v : Value) (L : List α) : Prop where
 o : Own B e m enc w v L
 r : ∀ x ∈ L, Rd (fun i => B ≤ i ∧ v.ownBlock ≠ some i) w (app x)
theorem OwL.pure {A : Type} {e : TypeId} {m : Nat} {enc : A → List Value} {app : A → VT} {B : Nat} {w E : World} {v : Value} {L : List A} (h : OwL e m enc app B w v L) (D : Below w.heap.size w E) : OwL e m enc app B E v L := ⟨h.o.pure D, fun x F => (h.r x F).pure D⟩
theorem OwL.base {A : Type} {e : TypeId} {m : Nat} {enc : A → List Value} {app : A → VT} {B C : Nat} {w : World} {v : Value} {L : List A} (h : OwL e m enc app B w v L) (D : C ≤ B) : OwL e m enc app C w v L := ⟨h.o.rebase (fun k E => jk D (h.o.ge E)), fun x F => (h.r x F).weaken (fun i _ hi => ⟨jk D hi.1, hi.2⟩)⟩
theorem adk {A D : Type} {f : A → D} {L : List A} {k : Nat} (G : k < L.length) {x : A} (h : f x = f L[k]) : (L.set k x).map f = L.map f := by
 rw [List.map_set, h]
 apply List.ext_getElem (by simp)
 intro i E F
 rw [List.getElem_set]
 split
 ·rename_i e; subst e; simp
 ·rfl
theorem ajy {P : Prop} (h : P := by
 rw [List.set_append_right _ _ (by rw [hDlh.out]; exact qj _), hDlh.out, Nat.sub_self, List.drop_eq_getElem_cons hkt, List.set_cons_zero, List.append_assoc]; rfl) : P := h
theorem ajz (w : World) (v : Value) (l : List PtT) (P : Nat → Prop) (hS : Slc aat 12 w v l) (hr : ∀ x ∈ l, Rd P w x.pr.app) (hP : ∀ i, P i → i < w.heap.size) (h0 : ∀ x ∈ l, x.p.pr.smallB = true) (hT : Tb w) (hL : l.length ≤ 1000000) :
 Calls prog 86 #[v] w fun e w' => ∃ (v' : Value) (L : List PtT), e = .returned v' ∧ L.map PtT.p = l.map PtT.p ∧ OwL 64 12 aat (fun x => x.pr.app) w.heap.size w' v' L ∧ Below w.heap.size w w' := by
 have a0 := auk w v l hS hL (fun x I => azy (hr x I))
 obtain ⟨va, vc, rfl, -⟩ := hS.len
 have aw := qq a0; have bi := qq hr; have bg := qq h0
 have br : (l.length : Int) ≤ 1000000 := by omega
 clear a0 hS hr h0
 go_enter func86, ntmps86
 go_upto_region 2 with (go_at_call 136; (with_reducible refine aw.out.mono ?_); rintro e w2 ⟨r, rfl, hO, J⟩)
 obtain ⟨ra, rn, rc, rfl⟩ := hO.shape3
 obtain rfl : rn = l.length := by obtain ⟨_, _, e, _⟩ := (hO.slc aae).len; injection e
 have bk := qq hO
 have bd := qq J
 clear aw hO J
 go_wp2
 go_loopw [9] (fun s9 wr => ∃ (k : Nat) (D : List PtT), k ≤ l.length ∧ s9 = .int .i64 k ∧ D.length = k ∧ Hid (D.map PtT.p = (l.take k).map PtT.p) ∧ Own w.heap.size 64 12 aat wr (.slice ra l.length rc) (D ++ l.drop k) ∧ Hid (∀ x ∈ D, Rd (fun i => w.heap.size ≤ i ∧ Value.ownBlock (.slice ra l.length rc) ≠ some i) wr x.pr.app) ∧ Below w.heap.size w wr ∧ w2.heap.size ≤ wr.heap.size) (fun s9 _ => l.length - (intOf s9).toNat)
 case atStart => exact ⟨0, [], Nat.zero_le _, rfl, rfl, qq (by simp), by simpa using bk.out, qq (fun x I => by cases I), bd.out, qj _⟩
 case round =>
  obtain ⟨k, D, hk, rfl, a1, al, ad, ay, J, bh⟩ := hrel; have hDlh := qq a1; clear a1; by_cases hkt : k < l.length
  ·have bm : (k : Int) < (l.length : Int) := by omega
   have hi : k < (D ++ l.drop k).length := by rw [jz, List.length_drop, hDlh.out]; omega
   have am : (D ++ l.drop k)[k] = l[k] := by
    rw [List.getElem_append_right (by rw [hDlh.out]; exact qj _)]; simp [hDlh.out]
   obtain ⟨g, rfl, hg⟩ := abr ad hi; have bt : g < wr.heap.size := ad.lt rfl; have ac := (bi.out l[k] (qy hkt)).lt.pure J; have aq := bg.out l[k] (qy hkt); rcases I : l[k] with ⟨q, id, ⟨key, ao, red, mid, tv⟩, ab⟩; rw [I] at ac aq am; have ac : Rd _ _ tv := ac; obtain ⟨uk, un, us, ar, au, aj, an, ae, ul, rfl, -⟩ := ac.open; have ai := fun (u : World) (h : Below wr.heap.size wr u) => afa (PT.mk key ao red mid (VT.mk uk un us (.slice ar ae.length au) (.slice aj ul.length an) ae ul)) _ u (ac.pure h) aq ((hT.pure J).pure h)
   obtain ⟨bu, hX⟩ := qx ((PT.mk key ao red mid (VT.mk uk un us (.slice ar ae.length au) (.slice aj ul.length an) ae ul)).p); rw [PT.arg_mk, hX] at ai; have ba := qq ai; have bj := qq hX; have bf := qq I; have A := qq am; have F := qq ad; have c2 : wr.cell? ⟨g, k * 12 + 2, none⟩ = some (.string key) := F.out.cell aae k hi 2 _ (by rw [A.out]; rfl); have c3 : wr.cell? ⟨g, k * 12 + 3, none⟩ = some (.bool ao) := F.out.cell aae k hi 3 _ (by rw [A.out]; rfl); have c4 : wr.cell? ⟨g, k * 12 + 4, none⟩ = some (.bool red) := F.out.cell aae k hi 4 _ (by rw [A.out]; rfl); have c5 : wr.cell? ⟨g, k * 12 + 5, none⟩ = some (.string mid) := F.out.cell aae k hi 5 _ (by rw [A.out]; rfl); have c6 : wr.cell? ⟨g, k * 12 + 6, none⟩ = some (.int .u8 uk) := F.out.cell aae k hi 6 _ (by rw [A.out]; rfl); have c7 : wr.cell? ⟨g, k * 12 + 7, none⟩ = some (.int .u64 un) := F.out.cell aae k hi 7 _ (by rw [A.out]; rfl); have c8 : wr.cell? ⟨g, k * 12 + 8, none⟩ = some (.string us) := F.out.cell aae k hi 8 _ (by rw [A.out]; rfl); have c9 : wr.cell? ⟨g, k * 12 + 9, none⟩ = some (.slice ar ae.length au) := F.out.cell aae k hi 9 _ (by rw [A.out]; rfl); have bn : wr.cell? ⟨g, k * 12 + 10, none⟩ = some (.slice aj ul.length an) := F.out.cell aae k hi 10 _ (by rw [A.out]; rfl); clear ai hX I am ac aq ad; have f2 := F.out.frozen (k * 12 + 2); have f3 := F.out.frozen (k * 12 + 3); have f4 := F.out.frozen (k * 12 + 4); have f5 := F.out.frozen (k * 12 + 5); have f6 := F.out.frozen (k * 12 + 6); have f7 := F.out.frozen (k * 12 + 7); have f8 := F.out.frozen (k * 12 + 8); have f9 := F.out.frozen (k * 12 + 9); have f10 := F.out.frozen (k * 12 + 10); go_wp2_with (go_at_call 85; (with_reducible refine (ba.out _ (qz _ _)).mono ?_); rintro e w3 ⟨⟨X, O, U, M, bc⟩, rfl, ak, ag, af⟩; have ag : Rd _ _ bc := ag; obtain ⟨z, aa, Z, W, Y, K, N, G, H, rfl, -⟩ := ag.open; rw [PT.arg_mk]; have ak := qq ak; have E := F.out.pure af; have g2 := E.frozen (k * 12 + 2); have g3 := E.frozen (k * 12 + 3); have g4 := E.frozen (k * 12 + 4); have g5 := E.frozen (k * 12 + 5); have g6 := E.frozen (k * 12 + 6); have g7 := E.frozen (k * 12 + 7); have g8 := E.frozen (k * 12 + 8); have g9 := E.frozen (k * 12 + 9); have bp := E.frozen (k * 12 + 10); have d2 := E.cell aae k hi 2 _ (by rw [A.out]; rfl); have d3 := E.cell aae k hi 3 _ (by rw [A.out]; rfl); have d4 := E.cell aae k hi 4 _ (by rw [A.out]; rfl); have d5 := E.cell aae k hi 5 _ (by rw [A.out]; rfl); have d6 := E.cell aae k hi 6 _ (by rw [A.out]; rfl); have d7 := E.cell aae k hi 7 _ (by rw [A.out]; rfl); have d8 := E.cell aae k hi 8 _ (by rw [A.out]; rfl); have d9 := E.cell aae k hi 9 _ (by rw [A.out]; rfl); have bq := E.cell aae k hi 10 _ (by rw [A.out]; rfl)); have ah := E.sets aae k hi 2 [.string X, .bool O, .bool U, .string M, .int .u8 z, .int .u64 aa, .string Z, .slice W G.length Y, .slice K H.length N] (by simp) (PtT.mk q id (PT.mk X O U M (VT.mk z aa Z (.slice W G.length Y) (.slice K H.length N) G H)) ab) (by rw [A.out]; rfl)
   have bl : (D ++ l.drop k).set k (PtT.mk q id (PT.mk X O U M (VT.mk z aa Z (.slice W G.length Y) (.slice K H.length N) G H)) ab) = (D ++ [(PtT.mk q id (PT.mk X O U M (VT.mk z aa Z (.slice W G.length Y) (.slice K H.length N) G H)) ab)]) ++ l.drop (k + 1) := by
    exact ajy
   rw [bl] at ah; have hU := ab6 g [.string X, .bool O, .bool U, .string M, .int .u8 z, .int .u64 aa, .string Z, .slice W G.length Y, .slice K H.length N] (k * 12 + 2) w3; have az := (J.trans (af.mono J.size)).trans (hU.below (jk J.size af.size) (fun b e => by have e : b = g := e; omega)); have av := jk (jk bh af.size) hU.size
   have ax := qq (show ∀ x ∈ D ++ [(PtT.mk q id (PT.mk X O U M (VT.mk z aa Z (.slice W G.length Y) (.slice K H.length N) G H)) ab)], Rd (fun i => w.heap.size ≤ i ∧ Value.ownBlock (.slice (some ⟨g, 0, none⟩) l.length rc) ≠ some i) (aam w3 g (k * 12 + 2) [.string X, .bool O, .bool U, .string M, .int .u8 z, .int .u64 aa, .string Z, .slice W G.length Y, .slice K H.length N]) x.pr.app from fun x I => by
    rcases List.mem_append.1 I with I | I
    ·exact ((ay.out x I).pure af).upd hU (fun i hi e => hi.2 (by rw [show i = g from e]; rfl))
    ·rw [jc.1 I]
     exact (ag.upd hU (fun i hi e => by have e : i = g := e; omega)).weaken (fun i _ hi => ⟨jk J.size hi, fun e => jp (show g = i by simpa [Value.ownBlock] using e) (by omega)⟩))
   have bb := qq (show (D ++ [(PtT.mk q id (PT.mk X O U M (VT.mk z aa Z (.slice W G.length Y) (.slice K H.length N) G H)) ab)]).map PtT.p = (l.take (k + 1)).map PtT.p by
    rw [List.map_append, al.out, jx hkt, List.map_append]; congr 1; rw [List.map_singleton, List.map_singleton, bf.out]; unfold PtT.p; dsimp only
    rw [ak.out, ← bj.out])
   unfold aam aam aam aam aam aam aam aam aam aam at ah ax az av; go_roundw
   case rel => exact ⟨k + 1, D ++ [(PtT.mk q id (PT.mk X O U M (VT.mk z aa Z (.slice W G.length Y) (.slice K H.length N) G H)) ab)], by omega, by go_num, by rw [jz, hDlh.out]; rfl, bb, ah, ax, az, av⟩
   case measure => simp [intOf]; omega
  ·obtain rfl : k = l.length := by omega
   rw [List.drop_length, List.append_nil] at ad; rw [js] at al; go_wp2; go_ret; have bo := hDlh.out; exact ⟨_, D, rfl, al.out, ⟨ad, ay.out⟩, J⟩
structure OwI {α : Type} (e : TypeId) (m : Nat) (enc : α → List Value) (app : α → VT) (w : World) (lo hi : Nat) (v : Value) (L : List α) : Prop where
 o : Own lo e m enc w v L
 k : ∀ k, v.ownBlock = some k → k < hi
 le : lo ≤ hi
 r : ∀ x ∈ L, Rd (fun i => lo ≤ i ∧ i < hi ∧ v.ownBlock ≠ some i) w (app x)
abbrev MsI := OwI (α := MsT) 60 11 abl (fun m => m.pr.app)
abbrev PtI := OwI (α := PtT) 64 12 aat (fun m => m.pr.app)
theorem OwI.upd {D : Type} {e : TypeId} {m : Nat} {enc : D → List Value} {app : D → VT} {w E : World} {lo hi : Nat} {v : Value} {L : List D} {S : Nat → Prop} (h : OwI e m enc app w lo hi v L) (F : Upd S w E) (G : ∀ i, lo ≤ i → i < hi → ¬ S i) : OwI e m enc app E lo hi v L :=
 ⟨h.o.upd F (fun i A => G i (h.o.ge A) (h.k i A)), h.k, h.le, fun x H => (h.r x H).upd F (fun i A => G i A.1 A.2.1)⟩
def SegQ (w : World) : Nat → List QuT → Nat → Prop
 | lo, [], hi => lo ≤ hi
 | lo, q :: l, hi => ∃ mid, MsI w lo mid q.mv q.zw ∧ SegQ w mid l hi
def SegB (w : World) : Nat → List BrT → Nat → Prop
 | lo, [], hi => lo ≤ hi
 | lo, b :: l, hi => ∃ mid, PtI w lo mid b.pv b.zu ∧ Own lo 68 2 abc w b.tv b.zy ∧ (∀ k, b.tv.ownBlock = some k → k < mid) ∧ SegB w mid l hi
theorem SegQ.le {w : World} : ∀ {l : List QuT} {lo hi : Nat}, SegQ w lo l hi → lo ≤ hi
 | [], _, _, h => h
 | q :: l, lo, hi, ⟨mid, h, k⟩ => jk h.le (SegQ.le k)
theorem SegB.le {w : World} : ∀ {l : List BrT} {lo hi : Nat}, SegB w lo l hi → lo ≤ hi
 | [], _, _, h => h
 | q :: l, lo, hi, ⟨mid, h, _, _, k⟩ => jk h.le (SegB.le k)
theorem SegQ.upd {S : Nat → Prop} {w E : World} (F : Upd S w E) : ∀ {l : List QuT} {lo hi : Nat}, SegQ w lo l hi → (∀ i, lo ≤ i → i < hi → ¬ S i) → SegQ E lo l hi
 | [], _, _, h, _ => h
 | q :: l, lo, hi, ⟨mid, h, k⟩, hS => ⟨mid, h.upd F (fun i A D => hS i A (jg D k.le)), SegQ.upd F k (fun i A D => hS i (jk h.le A) D)⟩
theorem SegB.upd {S : Nat → Prop} {w G : World} (E : Upd S w G) : ∀ {l : List BrT} {lo hi : Nat}, SegB w lo l hi → (∀ i, lo ≤ i → i < hi → ¬ S i) → SegB G lo l hi
 | [], _, _, h, _ => h
 | q :: l, lo, hi, ⟨mid, h, t, tk, k⟩, hS => ⟨mid, h.upd E (fun i A D => hS i A (jg D k.le)), t.upd E (fun i F => hS i (t.ge F) (jg (tk i F) k.le)), tk, SegB.upd E k (fun i A D => hS i (jk h.le A) D)⟩
theorem SegQ.snoc {w : World} {q : QuT} {mid hi : Nat} : ∀ {l : List QuT} {lo : Nat}, SegQ w lo l mid → MsI w mid hi q.mv q.zw → SegQ w lo (l ++ [q]) hi
 | [], lo, h, k => ⟨hi, ⟨k.o.rebase (fun i e => jk h (k.o.ge e)), k.k, jk h k.le, fun x A => (k.r x A).weaken (fun i _ hi => ⟨jk h hi.1, hi.2⟩)⟩, qj _⟩
 | p :: l, lo, ⟨m, h1, h2⟩, k => ⟨m, h1, SegQ.snoc h2 k⟩
theorem SegB.snoc {w : World} {q : BrT} {mid hi : Nat} : ∀ {l : List BrT} {lo : Nat}, SegB w lo l mid → PtI w mid hi q.pv q.zu → Own mid 68 2 abc w q.tv q.zy → (∀ k, q.tv.ownBlock = some k → k < hi) → SegB w lo (l ++ [q]) hi
 | [], lo, h, k, t, tk => ⟨hi, ⟨k.o.rebase (fun i e => jk h (k.o.ge e)), k.k, jk h k.le, fun x A => (k.r x A).weaken (fun i _ hi => ⟨jk h hi.1, hi.2⟩)⟩, t.rebase (fun i e => jk h (t.ge e)), tk, qj _⟩
 | p :: l, lo, ⟨m, h1, h2, h3, h4⟩, k, t, tk => ⟨m, h1, h2, h3, SegB.snoc h4 k t tk⟩
theorem SegQ.ext {w : World} : ∀ {l : List QuT} {lo hi A : Nat}, SegQ w lo l hi → hi ≤ A → SegQ w lo l A
 | [], lo, hi, A, h, k => jk h k
 | p :: l, lo, hi, A, ⟨m, h1, h2⟩, k => ⟨m, h1, SegQ.ext h2 k⟩
theorem SegB.ext {w : World} : ∀ {l : List BrT} {lo hi A : Nat}, SegB w lo l hi → hi ≤ A → SegB w lo l A
 | [], lo, hi, A, h, k => jk h k
 | p :: l, lo, hi, A, ⟨m, h1, h2, h3, h4⟩, k => ⟨m, h1, h2, h3, SegB.ext h4 k⟩
structure StWf (t : StT) : Prop where
 n : 0 ≤ t.next ∧ t.next < 18446744073709551616
 ql : ∀ q ∈ t.qs, 0 ≤ q.limit ∧ q.limit < 18446744073709551616
 mi : ∀ q ∈ t.qs, ∀ m ∈ q.zw, 0 ≤ m.id ∧ m.id < 18446744073709551616
 bx : ∀ b ∈ t.zk, 0 ≤ b.x.1 ∧ b.x.1 < 4294967296
 pi : ∀ b ∈ t.zk, ∀ p ∈ b.zu, 0 ≤ p.id ∧ p.id < 18446744073709551616
 ti : ∀ b ∈ t.zk, ∀ r ∈ b.zy, 0 ≤ r.id ∧ r.id < 18446744073709551616
 hx : ∀ h ∈ t.hs, 0 ≤ h.x.1 ∧ h.x.1 < 4294967296
def Mut (vs : List Value) (i : Nat) : Prop := ∃ v ∈ vs, v.ownBlock = some i
theorem abd {a b : List Value} {i : Nat} : Mut (a ++ b) i ↔ Mut a i ∨ Mut b i := by
 unfold Mut
 constructor
 ·rintro ⟨v, A, e⟩
  rcases List.mem_append.1 A with h | h
  ·exact .inl ⟨v, h, e⟩
  ·exact .inr ⟨v, h, e⟩
 ·rintro (⟨v, h, e⟩ | ⟨v, h, e⟩)
  ·exact ⟨v, List.mem_append_left _ h, e⟩
  ·exact ⟨v, List.mem_append_right _ h, e⟩
theorem aab {v : Value} {b : List Value} {i : Nat} : Mut (v :: b) i ↔ v.ownBlock = some i ∨ Mut b i := by
 unfold Mut
 constructor
 ·rintro ⟨u, A, e⟩
  rcases List.mem_cons.1 A with rfl | h
  ·exact .inl e
  ·exact .inr ⟨u, h, e⟩
 ·rintro (e | ⟨u, h, e⟩)
  ·exact ⟨v, List.mem_cons_self .., e⟩
  ·exact ⟨u, List.mem_cons_of_mem _ h, e⟩
def StT.mv (t : StT) : List Value := t.qv :: t.bv :: t.hv :: (t.qs.map QuT.mv ++ t.zk.map BrT.pv)
structure StOw (B : Nat) (w : World) (t : StT) : Prop where
 q : Own B 51 3 aar w t.qv t.qs
 b : Own B 62 5 aa7 w t.bv t.zk
 h : Own B 90 4 adp w t.hv t.hs
 m : ∀ q ∈ t.qs, Own B 60 11 abl w q.mv q.zw
 p : ∀ b ∈ t.zk, Own B 64 12 aat w b.pv b.zu
 tk : ∀ b ∈ t.zk, Own B 68 2 abc w b.tv b.zy
 md : t.qs.Pairwise (fun a b => ∀ i, a.mv.ownBlock = some i → b.mv.ownBlock ≠ some i)
 pd : t.zk.Pairwise (fun a b => ∀ i, a.pv.ownBlock = some i → b.pv.ownBlock ≠ some i)
 ra : ∀ q ∈ t.qs, ∀ m ∈ q.zw, Rd (fun i => B ≤ i ∧ ¬ Mut t.mv i) w m.pr.app
 rb : ∀ b ∈ t.zk, ∀ p ∈ b.zu, Rd (fun i => B ≤ i ∧ ¬ Mut t.mv i) w p.pr.app
 wf : StWf t
theorem SegQ.all {w : World} : ∀ {l : List QuT} {lo hi : Nat}, SegQ w lo l hi → (∀ q ∈ l, Own lo 60 11 abl w q.mv q.zw ∧ ∀ k, q.mv.ownBlock = some k → k < hi) ∧ l.Pairwise (fun a b => ∀ i, a.mv.ownBlock = some i → b.mv.ownBlock ≠ some i) ∧ ∀ q ∈ l, ∀ m ∈ q.zw, Rd (fun i => lo ≤ i ∧ i < hi ∧ ¬ Mut (l.map QuT.mv) i) w m.pr.app
 | [], lo, hi, _ => ⟨fun q E => (by cases E), List.Pairwise.nil, fun q E => (by cases E)⟩
 | q :: l, lo, hi, ⟨mid, h, k⟩ => by
  obtain ⟨a, b, c⟩ := SegQ.all k; have F := k.le; refine ⟨fun x A => ?_, List.pairwise_cons.2 ⟨fun x A i I G => ?_, b⟩, fun x A m D => ?_⟩
  ·rcases List.mem_cons.1 A with rfl | A
   ·exact ⟨h.o, fun i e => jg (h.k i e) F⟩
   ·exact ⟨(a x A).1.rebase (fun i e => jk h.le ((a x A).1.ge e)), (a x A).2⟩
  ·have K := h.k i I
   have J := (a x A).1.ge G; omega
  ·rcases List.mem_cons.1 A with rfl | A
   ·refine (h.r m D).weaken (fun i _ hi => ⟨hi.1, jg hi.2.1 F, fun D => ?_⟩)
    rcases aab.1 D with e | ⟨v, H, e⟩
    ·exact hi.2.2 e
    ·obtain ⟨y, hy, rfl⟩ := jv.1 H
     have := (a y hy).1.ge e; have := hi.2.1; omega
   ·refine (c x A m D).weaken (fun i _ hi => ⟨jk h.le hi.1, hi.2.1, fun D => ?_⟩)
    rcases aab.1 D with e | D
    ·have := h.k i e; have := hi.1; omega
    ·exact hi.2.2 D
theorem SegB.all {w : World} : ∀ {l : List BrT} {lo hi : Nat}, SegB w lo l hi → (∀ q ∈ l, Own lo 64 12 aat w q.pv q.zu ∧ Own lo 68 2 abc w q.tv q.zy ∧ ∀ k, q.pv.ownBlock = some k → k < hi) ∧ l.Pairwise (fun a b => ∀ i, a.pv.ownBlock = some i → b.pv.ownBlock ≠ some i) ∧ ∀ q ∈ l, ∀ m ∈ q.zu, Rd (fun i => lo ≤ i ∧ i < hi ∧ ¬ Mut (l.map BrT.pv) i) w m.pr.app
 | [], lo, hi, _ => ⟨fun q E => (by cases E), List.Pairwise.nil, fun q E => (by cases E)⟩
 | q :: l, lo, hi, ⟨mid, h, t, tk, k⟩ => by
  obtain ⟨a, b, c⟩ := SegB.all k; have F := k.le; refine ⟨fun x A => ?_, List.pairwise_cons.2 ⟨fun x A i I G => ?_, b⟩, fun x A m D => ?_⟩
  ·rcases List.mem_cons.1 A with rfl | A
   ·exact ⟨h.o, t, fun i e => jg (h.k i e) F⟩
   ·exact ⟨(a x A).1.rebase (fun i e => jk h.le ((a x A).1.ge e)), (a x A).2.1.rebase (fun i e => jk h.le ((a x A).2.1.ge e)), (a x A).2.2⟩
  ·have K := h.k i I
   have J := (a x A).1.ge G; omega
  ·rcases List.mem_cons.1 A with rfl | A
   ·refine (h.r m D).weaken (fun i _ hi => ⟨hi.1, jg hi.2.1 F, fun D => ?_⟩)
    rcases aab.1 D with e | ⟨v, H, e⟩
    ·exact hi.2.2 e
    ·obtain ⟨y, hy, rfl⟩ := jv.1 H
     have := (a y hy).1.ge e; have := hi.2.1; omega
   ·refine (c x A m D).weaken (fun i _ hi => ⟨jk h.le hi.1, hi.2.1, fun D => ?_⟩)
    rcases aab.1 D with e | D
    ·have := h.k i e; have := hi.1; omega
    ·exact hi.2.2 D
theorem StOw.mk' {B B1 lo mid hi : Nat} {w : World} {t : StT} (N : Own B1 51 3 aar w t.qv t.qs) (W : Own B1 62 5 aa7 w t.bv t.zk) (O : Own B1 90 4 adp w t.hv t.hs)
 (F : ∀ k, t.qv.ownBlock = some k ∨ t.bv.ownBlock = some k ∨ t.hv.ownBlock = some k → k < lo) (U : SegQ w lo t.qs mid) (h : SegB w mid t.zk hi) (K : B ≤ B1) (z : B1 ≤ lo) (wf : StWf t) : StOw B w t := by
 obtain ⟨J, a2, a3⟩ := U.all
 obtain ⟨G, Y, X⟩ := h.all
 have hm := U.le
 refine ⟨N.rebase (fun k e => jk K (N.ge e)), W.rebase (fun k e => jk K (W.ge e)), O.rebase (fun k e => jk K (O.ge e)), fun q H => (J q H).1.rebase (fun k e => ?_), fun b E => (G b E).1.rebase (fun k e => ?_), fun b E => (G b E).2.1.rebase (fun k e => ?_), a2, Y, fun q H m I => (a3 q H m I).weaken (fun i _ A => ⟨?_, fun D => ?_⟩), fun b E m I => (X b E m I).weaken (fun i _ A => ⟨?_, fun D => ?_⟩), wf⟩
 ·have := (J q H).1.ge e; omega
 ·have := (G b E).1.ge e; omega
 ·have := (G b E).2.1.ge e; omega
 ·have := A.1; omega
 ·unfold StT.mv at D
  rw [aab, aab, aab, abd] at D; have Z := A.1; rcases D with e | e | e | e | ⟨v, M, e⟩
  ·have := F i (.inl e); omega
  ·have := F i (.inr (.inl e)); omega
  ·have := F i (.inr (.inr e)); omega
  ·exact A.2.2 e
  ·obtain ⟨y, hy, rfl⟩ := jv.1 M
   have := (G y hy).1.ge e; have := A.2.1; omega
 ·have := A.1; omega
 ·unfold StT.mv at D
  rw [aab, aab, aab, abd] at D; have Z := A.1; rcases D with e | e | e | ⟨v, M, e⟩ | e
  ·have := F i (.inl e); omega
  ·have := F i (.inr (.inl e)); omega
  ·have := F i (.inr (.inr e)); omega
  ·obtain ⟨y, hy, rfl⟩ := jv.1 M
   have := (J y hy).2 i e; omega
  ·exact A.2.2 e
def BlkT (w : World) (b : Nat) (cs : List Value) (T : TypeId) : Prop := w.heap[b]? = some (.cells cs.toArray T (0, 0))
theorem BlkT.blk {w : World} {b : Nat} {A : List Value} {T : TypeId} (h : BlkT w b A T) : Blk w b A := ⟨T, h⟩
theorem BlkT.new (w : World) (A : List Value) (T : TypeId) : BlkT (w.alloc (.cells A.toArray T)) w.heap.size A T := by
 unfold BlkT; exact heap_alloc_new w _
theorem BlkT.keep {w D : World} {b : Nat} {A : List Value} {T : TypeId} (h : BlkT w b A T) (E : D.heap[b]? = w.heap[b]?) : BlkT D b A T := E.trans h
theorem BlkT.upd {S : Nat → Prop} {w D : World} {b : Nat} {A : List Value} {T : TypeId} (h : BlkT w b A T) (E : Upd S w D) (hs : ¬ S b) : BlkT D b A T := h.keep (E.block b h.blk.lt hs)
theorem BlkT.pure {w D : World} {b : Nat} {A : List Value} {T : TypeId} (h : BlkT w b A T) (E : Below w.heap.size w D) : BlkT D b A T := h.keep (E.block b h.blk.lt)
theorem BlkT.set {w : World} {b : Nat} {A : List Value} {T : TypeId} (h : BlkT w b A T) (i : Nat) (v : Value) : BlkT (w.setCell ⟨b, i, none⟩ v) b (A.set i v) T := by
 show (w.heap.modify b _)[b]? = _
 unfold BlkT at h
 rw [Array.getElem?_modify, qw rfl, h]
 simp
theorem abm {D : Type} {B e m : Nat} {enc : D → List Value} {w : World} {v : Value} {L : List D} {b : Nat} {G : List Value} {T : TypeId} (h : Own B e m enc w v L) (E : BlkT w b G T) (F : e ≠ T) : v.ownBlock ≠ some b := by
 intro hi
 rcases h.2 with ⟨rfl, _⟩ | ⟨g, H, I, rfl, _, A, _⟩
 ·simp [Value.ownBlock] at hi
 ·simp only [Value.ownBlock, jy] at hi
  subst hi; unfold BlkT at E; rw [E] at A; simp only [jy, Obj.cells.injEq] at A; exact F A.2.1.symm
def Far (B m : Nat) (ex : Value) (t : StT) (i : Nat) : Prop := B ≤ i ∧ i ≠ m ∧ ¬ Mut (ex :: t.mv) i
structure MkS (B m : Nat) (ex : Value) (w : World) (t : StT) : Prop where
 a : BlkT w m [.int .u64 t.next, t.qv, t.bv, t.hv] 81
 mB : B ≤ m
 q : Own B 51 3 aar w t.qv t.qs
 b : Own B 62 5 aa7 w t.bv t.zk
 h : Own B 90 4 adp w t.hv t.hs
 mm : ∀ q ∈ t.qs, Own B 60 11 abl w q.mv q.zw
 p : ∀ b ∈ t.zk, Own B 64 12 aat w b.pv b.zu
 tk : ∀ b ∈ t.zk, Own B 68 2 abc w b.tv b.zy
 md : t.qs.Pairwise (fun a b => ∀ i, a.mv.ownBlock = some i → b.mv.ownBlock ≠ some i)
 pd : t.zk.Pairwise (fun a b => ∀ i, a.pv.ownBlock = some i → b.pv.ownBlock ≠ some i)
 xd : ∀ b ∈ t.zk, ∀ i, b.pv.ownBlock = some i → ex.ownBlock ≠ some i
 ra : ∀ q ∈ t.qs, ∀ x ∈ q.zw, Rd (Far B m ex t) w x.pr.app
 rb : ∀ b ∈ t.zk, ∀ x ∈ b.zu, Rd (Far B m ex t) w x.pr.app
 wf : StWf t
theorem MkS.pure {B m : Nat} {H : Value} {w G : World} {t : StT} (h : MkS B m H w t) (A : Below w.heap.size w G) : MkS B m H G t :=
 ⟨h.a.pure A, h.mB, h.q.pure A, h.b.pure A, h.h.pure A, fun q F => (h.mm q F).pure A, fun b D => (h.p b D).pure A, fun b D => (h.tk b D).pure A, h.md, h.pd, h.xd, fun q F x E => (h.ra q F x E).pure A, fun b D x E => (h.rb b D x E).pure A, h.wf⟩
theorem MkS.of {B : Nat} {w : World} {t : StT} (h : StOw B w t) (H : B ≤ w.heap.size) : MkS B w.heap.size (.slice none 0 0) (w.alloc (.cells #[.int .u64 t.next, t.qv, t.bv, t.hv] 81)) t := by
 have A := (qz w.heap.size w).alloc (qj _) (.cells #[.int .u64 t.next, t.qv, t.bv, t.hv] 81)
 have G : ∀ v : VT, Rd (fun i => B ≤ i ∧ ¬ Mut t.mv i) w v → Rd (Far B w.heap.size (.slice none 0 0) t) (w.alloc (.cells #[.int .u64 t.next, t.qv, t.bv, t.hv] 81)) v := fun v h =>
  (h.lt.pure A).weaken (fun i _ hi => ⟨hi.1.1, by have := hi.2; omega, fun I => by
   rcases aab.1 I with e | e
   ·simp [Value.ownBlock] at e
   ·exact hi.1.2 e⟩)
 exact ⟨BlkT.new w [.int .u64 t.next, t.qv, t.bv, t.hv] _, H, h.q.pure A, h.b.pure A, h.h.pure A, fun q F => (h.m q F).pure A, fun b D => (h.p b D).pure A, fun b D => (h.tk b D).pure A, h.md, h.pd, fun b _ i _ e => by simp [Value.ownBlock] at e, fun q F x E => G _ (h.ra q F x E), fun b D x E => G _ (h.rb b D x E), h.wf⟩
theorem MkS.rd {B m : Nat} {F : Value} {w : World} {t : StT} (h : MkS B m F w t) : StRd (fun i => B ≤ i) w t :=
 ⟨h.q.slc aaf, fun k e _ => h.q.ge e, fun q D => ⟨(h.mm q D).slc aac, fun k e _ => (h.mm q D).ge e, fun x E => (h.ra q D x E).weaken (fun i _ hi => hi.1), h.wf.mi q D⟩,
  h.b.slc aag, fun k e _ => h.b.ge e, fun b A => ⟨(h.p b A).slc aae, fun k e _ => (h.p b A).ge e, fun x E => (h.rb b A x E).weaken (fun i _ hi => hi.1), (h.tk b A).slc aa9, fun k e _ => (h.tk b A).ge e,
   ⟨by show (0 : Int) ≤ 4; omega, by show (4 : Int) < 256; omega, by show (0 : Int) ≤ 0; omega, by show (0 : Int) < _; omega, (h.wf.bx b A).1, (h.wf.bx b A).2, fun p G => by
    obtain ⟨y, hy, rfl⟩ := jv.1 G
    exact ⟨(h.wf.pi b A y hy).1, (h.wf.pi b A y hy).2, (h.rb b A y hy).wf⟩, h.wf.ti b A⟩⟩,
  h.h.slc adi, fun k e _ => h.h.ge e, h.wf.n, h.wf.ql, h.wf.hx⟩
theorem MkS.setQ {B m : Nat} {K : Value} {w D : World} {t : StT} (h : MkS B m K w t) {r : Value} {qs : List QuT} (Y : Own B 51 3 aar D r qs) (z : Upd (fun k => t.qv.ownBlock = some k) w D) (hr : ∀ k, r.ownBlock = some k → t.qv.ownBlock = some k ∨ w.heap.size ≤ k)
 (N : ∀ q ∈ qs, q ∈ t.qs ∨ (q.mv = .slice none 0 0 ∧ q.zw = [])) (hd : qs.Pairwise (fun a b => ∀ i, a.mv.ownBlock = some i → b.mv.ownBlock ≠ some i)) (hw : StWf { t with qv := r, qs := qs }) :
 MkS B m K (D.setCell ⟨m, 1, none⟩ r) { t with qv := r, qs := qs } := by
 have hm : t.qv.ownBlock ≠ some m := abm h.q h.a (by decide)
 have X : BlkT D m [.int .u64 t.next, t.qv, t.bv, t.hv] 81 := h.a.upd z hm
 have Z : Upd (fun k => t.qv.ownBlock = some k ∨ k = m) w (D.setCell ⟨m, 1, none⟩ r) := (z.mono (fun i e _ => .inl e)).trans (Upd.set (S := fun k => k = m) rfl r) (fun i e _ => .inr e)
 have ab : r.ownBlock ≠ some m := abm Y X (by decide)
 have ac : ∀ v : Value, v ∈ t.qs.map QuT.mv → v ∈ t.qs.map QuT.mv := fun _ h => h
 have W : ∀ v : VT, Rd (Far B m K t) w v → Rd (Far B m K { t with qv := r, qs := qs }) (D.setCell ⟨m, 1, none⟩ r) v := fun v U =>
  (U.lt.upd Z (fun i hi e => by
   rcases e with e | e
   ·exact hi.1.2.2 (aab.2 (.inr (aab.2 (.inl e))))
   ·exact hi.1.2.1 e)).weaken (fun i _ hi => ⟨hi.1.1, hi.1.2.1, fun O => by
    apply hi.1.2.2; unfold StT.mv at O ⊢; simp only [aab, abd] at O ⊢; rcases O with e | e | e | e | e | e
    ·exact .inl e
    ·rcases hr i e with e | e
     ·exact .inr (.inl e)
     ·have := hi.2; omega
    ·exact .inr (.inr (.inl e))
    ·exact .inr (.inr (.inr (.inl e)))
    ·obtain ⟨v, U, e⟩ := e
     obtain ⟨q, F, rfl⟩ := jv.1 U; rcases N q F with A | ⟨A, _⟩
     ·exact .inr (.inr (.inr (.inr (.inl ⟨_, jw A, e⟩))))
     ·rw [A] at e; simp [Value.ownBlock] at e
    ·exact .inr (.inr (.inr (.inr (.inr e))))⟩)
 have E : ∀ {aa : Type} {e n : Nat} {enc : aa → List Value} {v : Value} {L : List aa}, e ≠ 51 → e ≠ 81 → Own B e n enc w v L → Own B e n enc (D.setCell ⟨m, 1, none⟩ r) v L := fun A G M =>
  M.upd Z (fun k J e => by
   rcases e with e | e
   ·exact aaz M h.q A J e
   ·exact abm M h.a G (by rw [J, e]))
 refine ⟨X.set 1 r, h.mB, Y.other _ _ (fun k J e => ab (by rw [J]; exact congrArg some e)), E (by decide) (by decide) h.b, E (by decide) (by decide) h.h, fun q F => ?_, fun b I => E (by decide) (by decide) (h.p b I), fun b I => E (by decide) (by decide) (h.tk b I), hd, h.pd, h.xd, fun q F x H => ?_, fun b I x H => W _ (h.rb b I x H), hw⟩
 ·rcases N q F with A | ⟨A, G⟩
  ·exact E (by decide) (by decide) (h.mm q A)
  ·rw [A, G]; exact Own.nil
 ·rcases N q F with A | ⟨A, G⟩
  ·exact W _ (h.ra q A x H)
  ·rw [G] at H; cases H
theorem MkS.setN {B m : Nat} {E : Value} {w : World} {t : StT} (h : MkS B m E w t) {n : Int} (O : 0 ≤ n ∧ n < 18446744073709551616) : MkS B m E (w.setCell ⟨m, 0, none⟩ (.int .u64 n)) { t with next := n } := by
 have J : Upd (fun k => k = m) w (w.setCell ⟨m, 0, none⟩ (.int .u64 n)) := Upd.set (S := fun k => k = m) rfl _
 have H : ∀ v : VT, Rd (Far B m E t) w v → Rd (Far B m E { t with next := n }) (w.setCell ⟨m, 0, none⟩ (.int .u64 n)) v := fun v U => (U.upd J (fun i hi e => hi.2.1 e)).weaken (fun i _ hi => hi)
 have A : ∀ {K : Type} {e k : Nat} {enc : K → List Value} {v : Value} {L : List K}, e ≠ 81 → Own B e k enc w v L → Own B e k enc (w.setCell ⟨m, 0, none⟩ (.int .u64 n)) v L := fun N I =>
  I.upd J (fun k M e => abm I h.a N (by rw [M, show k = m from e]))
 exact ⟨h.a.set 0 _, h.mB, A (by decide) h.q, A (by decide) h.b, A (by decide) h.h, fun q G => A (by decide) (h.mm q G), fun b D => A (by decide) (h.p b D), fun b D => A (by decide) (h.tk b D), h.md, h.pd, h.xd, fun q G x F => H _ (h.ra q G x F), fun b D x F => H _ (h.rb b D x F), ⟨O, h.wf.ql, h.wf.mi, h.wf.bx, h.wf.pi, h.wf.ti, h.wf.hx⟩⟩
structure BrX (B m : Nat) (w : World) (t : StT) (b : BrT) : Prop where
 p : Own B 64 12 aat w b.pv b.zu
 tk : Own B 68 2 abc w b.tv b.zy
 r : ∀ x ∈ b.zu, Rd (Far B m b.pv t) w x.pr.app
 pi : ∀ p ∈ b.zu, 0 ≤ p.id ∧ p.id < 18446744073709551616
 ti : ∀ r ∈ b.zy, 0 ≤ r.id ∧ r.id < 18446744073709551616
theorem MkS.delB {B m : Nat} {w F : World} {t : StT} (h : MkS B m (.slice none 0 0) w t) {i : Nat} (hi : i < t.zk.length) {r : Value} (hO : Own B 62 5 aa7 F r (t.zk.eraseIdx i)) (ha : BlkT F m [.int .u64 t.next, t.qv, r, t.hv] 81) (Z : Upd (fun k => t.bv.ownBlock = some k ∨ k = m) w F) (hr : ∀ k, r.ownBlock = some k → t.bv.ownBlock = some k) :
 MkS B m t.zk[i].pv F { t with bv := r, zk := t.zk.eraseIdx i } ∧ BrX B m F { t with bv := r, zk := t.zk.eraseIdx i } t.zk[i] := by
 have E := fun b A => (List.eraseIdx_sublist t.zk i).subset (a := b) A
 have G := qy hi
 have K : ∀ v : VT, Rd (Far B m (.slice none 0 0) t) w v → Rd (Far B m t.zk[i].pv { t with bv := r, zk := t.zk.eraseIdx i }) F v := fun v W =>
  (W.upd Z (fun i hi e => by
   rcases e with e | e
   ·exact hi.2.2 (aab.2 (.inr (aab.2 (.inr (aab.2 (.inl e))))))
   ·exact hi.2.1 e)).weaken (fun j _ U => ⟨U.1, U.2.1, fun O => by
    apply U.2.2; unfold StT.mv at O ⊢; simp only [aab, abd] at O ⊢; rcases O with e | e | e | e | e | e
    ·exact .inr (.inr (.inr (.inr (.inr ⟨_, jw G, e⟩))))
    ·exact .inr (.inl e)
    ·exact .inr (.inr (.inl (hr j e)))
    ·exact .inr (.inr (.inr (.inl e)))
    ·exact .inr (.inr (.inr (.inr (.inl e))))
    ·obtain ⟨v, W, e⟩ := e
     obtain ⟨b, A, rfl⟩ := jv.1 W
     exact .inr (.inr (.inr (.inr (.inr ⟨_, jw (E b A), e⟩))))⟩)
 have D : ∀ {z : Type} {e n : Nat} {enc : z → List Value} {v : Value} {L : List z}, e ≠ 62 → e ≠ 81 → Own B e n enc w v L → Own B e n enc F v L := fun h1 h2 M =>
  M.upd Z (fun k I e => by
   rcases e with e | e
   ·exact aaz M h.b h1 I e
   ·exact abm M h.a h2 (by rw [I, e]))
 have X := List.pairwise_iff_getElem.1 h.pd
 refine ⟨⟨ha, h.mB, D (by decide) (by decide) h.q, hO, D (by decide) (by decide) h.h, fun q N => D (by decide) (by decide) (h.mm q N), fun b A => D (by decide) (by decide) (h.p b (E b A)), fun b A => D (by decide) (by decide) (h.tk b (E b A)), h.md, h.pd.sublist (List.eraseIdx_sublist _ _), fun b A j J Y => ?_, fun q N x H => K _ (h.ra q N x H), fun b A x H => K _ (h.rb b (E b A) x H), ⟨h.wf.n, h.wf.ql, h.wf.mi, fun b A => h.wf.bx b (E b A), fun b A => h.wf.pi b (E b A), fun b A => h.wf.ti b (E b A), h.wf.hx⟩⟩, ⟨D (by decide) (by decide) (h.p _ G), D (by decide) (by decide) (h.tk _ G), fun x H => K _ (h.rb _ G x H), h.wf.pi _ G, h.wf.ti _ G⟩⟩
 obtain ⟨k, I, rfl⟩ := List.getElem_of_mem A
 rw [List.length_eraseIdx_of_lt hi] at I
 rw [List.getElem_eraseIdx] at J
 split at J
 ·rename_i hlt
  exact X k i (by omega) hi hlt j J Y
 ·rename_i hlt
  exact X i (k + 1) hi (by omega) (by omega) j Y J
theorem ahq {P : Prop} (h : P := by
 rcases jd hq with hq | rfl
 ·exact h.wf.ql q hq
 ·have := h.wf.ql t.qs[k] hmem
  exact this) : P := h
theorem agj {P : Prop} (h : P := by
 exact .inr (.inr (.inr (.inr (.inl ⟨_, jw hmem, e⟩))))) : P := h
theorem MkS.setM {B m : Nat} {G : Value} {w A : World} {t : StT} (h : MkS B m G w t) {k : Nat} (U : k < t.qs.length) {g n c : Nat} (aa : t.qv = .slice (some ⟨g, 0, none⟩) n c) {r : Value} {L : List MsT}
 (hO : Own B 60 11 abl A r L) (aq : r.oneCell' = true) (am : one r = r) (W : Upd (fun i => t.qs[k].mv.ownBlock = some i) w A) (hr : ∀ i, r.ownBlock = some i → t.qs[k].mv.ownBlock = some i ∨ w.heap.size ≤ i)
 (hx : ∀ x ∈ L, (∃ y ∈ t.qs[k].zw, y.pr.app = x.pr.app) ∨ Rd (fun i => B ≤ i ∧ i ≠ m ∧ ¬ Mut (G :: t.mv) i ∧ r.ownBlock ≠ some i) A x.pr.app) (ak : ∀ x ∈ L, 0 ≤ x.id ∧ x.id < 18446744073709551616) :
 MkS B m G (A.setCell ⟨g, k * 3 + 2, none⟩ r) { t with qs := t.qs.set k { t.qs[k] with mv := r, zw := L } } := by
 have hmem := qy U
 have J : t.qv.ownBlock = some g := by rw [aa]; rfl
 have al : g ≠ m := fun e => abm h.q h.a (by decide) (by rw [J, e])
 have X := h.mm _ hmem
 have ao : BlkT A m [.int .u64 t.next, t.qv, t.bv, t.hv] 81 := h.a.upd W (abm X h.a (by decide))
 have K : Upd (fun i => i = g) A (A.setCell ⟨g, k * 3 + 2, none⟩ r) := Upd.set (S := fun i => i = g) rfl r
 have hU : Upd (fun i => t.qs[k].mv.ownBlock = some i ∨ i = g) w (A.setCell ⟨g, k * 3 + 2, none⟩ r) := (W.mono (fun i e _ => .inl e)).trans K (fun i e _ => .inr e)
 have ah : Own B 51 3 aar A t.qv t.qs := h.q.upd W (fun i hi e => aaz h.q X (by decide) hi e)
 have ab : Mut (G :: t.mv) g := aab.2 (.inr (aab.2 (.inl J)))
 have ac : ∀ i, t.qs[k].mv.ownBlock = some i → Mut (G :: t.mv) i := fun i e => by
  unfold StT.mv; simp only [aab, abd]; exact agj
 have ad : ∀ i, Mut (G :: StT.mv { t with qs := t.qs.set k { t.qs[k] with mv := r, zw := L } }) i → Mut (G :: t.mv) i ∨ r.ownBlock = some i := fun i I => by
  unfold StT.mv at I ⊢; simp only [aab, abd] at I ⊢; rcases I with e | e | e | e | e | e
  ·exact .inl (.inl e)
  ·exact .inl (.inr (.inl e))
  ·exact .inl (.inr (.inr (.inl e)))
  ·exact .inl (.inr (.inr (.inr (.inl e))))
  ·obtain ⟨v, hv, e⟩ := e
   obtain ⟨q, hq, rfl⟩ := jv.1 hv; rcases jd hq with hq | rfl
   ·exact .inl (.inr (.inr (.inr (.inr (.inl ⟨_, jw hq, e⟩)))))
   ·exact .inr e
  ·exact .inl (.inr (.inr (.inr (.inr (.inr e)))))
 have Y : ∀ v : VT, Rd (Far B m G t) w v → Rd (Far B m G { t with qs := t.qs.set k { t.qs[k] with mv := r, zw := L } }) (A.setCell ⟨g, k * 3 + 2, none⟩ r) v := fun v hv =>
  (hv.lt.upd hU (fun i hi e => by
   rcases e with e | e
   ·exact hi.1.2.2 (ac i e)
   ·exact hi.1.2.2 (by rw [e]; exact ab))).weaken (fun i _ hi => ⟨hi.1.1, hi.1.2.1, fun I => by
    rcases ad i I with e | e
    ·exact hi.1.2.2 e
    ·rcases hr i e with e | e
     ·exact hi.1.2.2 (ac i e)
     ·have := hi.2; omega⟩)
 have M : ∀ {ai : Type} {e n : Nat} {enc : ai → List Value} {v : Value} {L : List ai}, e ≠ 51 → e ≠ 60 → Own B e n enc w v L → Own B e n enc (A.setCell ⟨g, k * 3 + 2, none⟩ r) v L := fun h1 h2 ho =>
  ho.upd hU (fun i hi e => by
   rcases e with e | e
   ·exact aaz ho X h2 hi e
   ·exact aaz ho h.q h1 (by rw [hi, e]) J)
 have z := List.pairwise_iff_getElem.1 h.md
 have Z : ∀ j, (E : j < t.qs.length) → j ≠ k → ∀ i, t.qs[j].mv.ownBlock = some i → t.qs[k].mv.ownBlock ≠ some i := fun j E af i H D => by
  rcases Nat.lt_or_ge j k with q | q
  ·exact z j k E U q i H D
  ·exact z k j U E (by omega) i D H
 have aj := (aa ▸ ah).set aaf k U 2 r { t.qs[k] with mv := r, zw := L } (by omega) (by
  show aar { t.qs[k] with mv := r, zw := L } = (aar t.qs[k]).set 2 r
  unfold aar; dsimp only; rw [am]; rfl)
 refine ⟨ao.upd K (fun e => al (show m = g from e).symm), h.mB, by show Own B _ 3 aar _ t.qv _; rw [aa]; exact aj, M (by decide) (by decide) h.b, M (by decide) (by decide) h.h, fun q hq => ?_, fun b F => M (by decide) (by decide) (h.p b F), fun b F => M (by decide) (by decide) (h.tk b F), ?_, h.pd, h.xd, fun q hq x N => ?_, fun b F x N => Y _ (h.rb b F x N), ⟨h.wf.n, fun q hq => ?_, fun q hq => ?_, h.wf.bx, h.wf.pi, h.wf.ti, h.wf.hx⟩⟩
 ·obtain ⟨j, E, rfl⟩ := List.getElem_of_mem hq
  rw [List.length_set] at E; rw [List.getElem_set]; split
  ·exact hO.upd K (fun i hi e => aaz hO ah (by decide) hi (by rw [show i = g from e]; exact J))
  ·rename_i af
   have ag := h.mm _ (qy E); exact (ag.upd W (fun i hi e => Z j E (fun e => af e.symm) i hi e)).upd K (fun i hi e => aaz ag h.q (by decide) hi (by rw [show i = g from e]; exact J))
 ·rw [List.pairwise_iff_getElem]
  intro a b O F an i H D; rw [List.length_set] at O F; rw [List.getElem_set] at H D; have ae : ∀ j, (E : j < t.qs.length) → ∀ i, t.qs[j].mv.ownBlock = some i → i < w.heap.size := fun j E i e => (h.mm _ (qy E)).lt e
  split at H
  ·rename_i hka
   subst hka; rw [qk (by omega)] at D; rcases hr i H with e | e
   ·exact Z b F (by omega) i D e
   ·have := ae b F i D; omega
  ·split at D
   ·rename_i hkb
    subst hkb; rcases hr i D with e | e
    ·exact Z a O (by omega) i H e
    ·have := ae a O i H; omega
   ·exact z a b O F an i H D
 ·rcases jd hq with hq | rfl
  ·exact Y _ (h.ra q hq x N)
  ·rcases hx x N with ⟨y, hy, e⟩ | h1
   ·rw [← e]; exact Y _ (h.ra _ hmem y hy)
   ·refine (h1.upd K (fun i hi e => hi.2.2.1 (by rw [show i = g from e]; exact ab))).weaken (fun i _ hi => ⟨hi.1, hi.2.1, fun I => ?_⟩)
    rcases ad i I with e | e
    ·exact hi.2.2.1 e
    ·exact hi.2.2.2 e
 ·exact ahq
 ·rcases jd hq with hq | rfl
  ·exact h.wf.mi q hq
  ·exact ak
def MsT.mark (x : MsT) : MsT := { x with pr := { x.pr with red := true } }
theorem MsT.mark_m (x : MsT) : x.mark.m = x.m.mark := rfl
theorem alr {P : Prop} (h : P := by
 refine (hoth (by decide) h.q).as (by simp) ?_
 have e : (t.qs.set k { t.qs[k] with zw := t.qs[k].zw.set j t.qs[k].zw[j].mark }).map aar = t.qs.map aar := by
  rw [List.map_set]; apply List.ext_getElem (by simp); intro i h1 h2; rw [List.getElem_set]; split
  ·rename_i e; subst e; rw [zq]; rfl
  ·rfl
 rw [List.flatMap_def, List.flatMap_def, e]) : P := h
theorem aj0 {P : Prop} (h : P := by
 rw [List.pairwise_iff_getElem]
 intro a b ha hb hab i e1 e2
 rw [List.length_set] at ha hb
 rw [List.getElem_set] at e1 e2
 split at e1
 ·rename_i e; subst e
  rw [qk (by omega)] at e2; exact hpw k b hk hb hab i e1 e2
 ·split at e2
  ·rename_i e; subst e
   exact hpw a k ha hk hab i e1 e2
  ·exact hpw a b ha hb hab i e1 e2) : P := h
theorem aj1 {P : Prop} (h : P := by
 rcases jd hq with hq | rfl
 ·exact hfar _ (h.ra q hq x hx')
 ·rcases jd hx' with hx | rfl
  ·exact hfar _ (h.ra _ hmem x hx)
  ·have := h.ra _ hmem t.qs[k].zw[j] (qy hj)
   exact hfar _ this) : P := h
theorem aj2 {P : Prop} (h : P := by
 rcases jd hq with hq | rfl
 ·exact h.wf.mi q hq
 ·intro x hx
  rcases jd hx with hx | rfl
  ·exact h.wf.mi _ hmem x hx
  ·have := h.wf.mi _ hmem t.qs[k].zw[j] (qy hj)
   exact this) : P := h
theorem MkS.mark {B m : Nat} {A : Value} {w : World} {t : StT} (h : MkS B m A w t) {k : Nat} (hk : k < t.qs.length) {g n c : Nat} (D : t.qs[k].mv = .slice (some ⟨g, 0, none⟩) n c) {j : Nat} (hj : j < t.qs[k].zw.length) :
 MkS B m A (w.setCell ⟨g, j * 11 + 3, none⟩ (.bool true)) { t with qs := t.qs.set k { t.qs[k] with zw := t.qs[k].zw.set j t.qs[k].zw[j].mark } } := by
 have hmem := qy hk
 have E : t.qs[k].mv.ownBlock = some g := by rw [D]; rfl
 have H := h.mm _ hmem
 have W : g ≠ m := fun e => abm H h.a (by decide) (by rw [E, e])
 have G : Upd (fun i => i = g) w (w.setCell ⟨g, j * 11 + 3, none⟩ (.bool true)) := Upd.set (S := fun i => i = g) rfl _
 have O : ∀ i, t.qs[k].mv.ownBlock = some i → Mut (A :: t.mv) i := fun i e => by
  unfold StT.mv; simp only [aab, abd]; exact agj
 have U : ∀ i, Mut (A :: StT.mv { t with qs := t.qs.set k { t.qs[k] with zw := t.qs[k].zw.set j t.qs[k].zw[j].mark } }) i → Mut (A :: t.mv) i := fun i F => by
  unfold StT.mv at F ⊢; simp only [aab, abd] at F ⊢; rcases F with e | e | e | e | e | e
  ·exact .inl e
  ·exact .inr (.inl e)
  ·exact .inr (.inr (.inl e))
  ·exact .inr (.inr (.inr (.inl e)))
  ·obtain ⟨v, D, e⟩ := e
   obtain ⟨q, hq, rfl⟩ := jv.1 D; rcases jd hq with hq | rfl
   ·exact .inr (.inr (.inr (.inr (.inl ⟨_, jw hq, e⟩))))
   ·exact agj
  ·exact .inr (.inr (.inr (.inr (.inr e))))
 have hfar : ∀ v : VT, Rd (Far B m A t) w v → Rd (Far B m A { t with qs := t.qs.set k { t.qs[k] with zw := t.qs[k].zw.set j t.qs[k].zw[j].mark } }) (w.setCell ⟨g, j * 11 + 3, none⟩ (.bool true)) v := fun v D =>
  (D.upd G (fun i hi e => hi.2.2 (O i (by rw [E, show i = g from e])))).weaken (fun i _ hi => ⟨hi.1, hi.2.1, fun F => hi.2.2 (U i F)⟩)
 have hoth : ∀ {K : Type} {e n : Nat} {enc : K → List Value} {v : Value} {L : List K}, e ≠ 60 → Own B e n enc w v L → Own B e n enc (w.setCell ⟨g, j * 11 + 3, none⟩ (.bool true)) v L := fun h2 J =>
  J.upd G (fun i hi e => aaz J H h2 hi (by rw [show i = g from e]; exact E))
 have hpw := List.pairwise_iff_getElem.1 h.md
 have N : ∀ i, (hi : i < t.qs.length) → i ≠ k → t.qs[i].mv.ownBlock ≠ some g := fun i hi I e1 => by
  rcases Nat.lt_or_ge i k with q | q
  ·exact hpw i k hi hk q g e1 E
  ·exact hpw k i hk hi (by omega) g E e1
 have M := (D ▸ H).set aac j hj 3 (.bool true) t.qs[k].zw[j].mark (by omega) rfl
 have X : Own B 51 3 aar (w.setCell ⟨g, j * 11 + 3, none⟩ (.bool true)) t.qv (t.qs.set k { t.qs[k] with zw := t.qs[k].zw.set j t.qs[k].zw[j].mark }) := by
  exact alr
 refine ⟨h.a.upd G (fun e => W (show m = g from e).symm), h.mB, X, hoth (by decide) h.b, hoth (by decide) h.h, fun q hq => ?_, fun b hb => hoth (by decide) (h.p b hb), fun b hb => hoth (by decide) (h.tk b hb), ?_, h.pd, h.xd, fun q hq x hx' => ?_, fun b hb x hx' => hfar _ (h.rb b hb x hx'), ⟨h.wf.n, fun q hq => ?_, fun q hq => ?_, h.wf.bx, h.wf.pi, h.wf.ti, h.wf.hx⟩⟩
 ·obtain ⟨i, hi, rfl⟩ := List.getElem_of_mem hq
  rw [List.length_set] at hi; rw [List.getElem_set]; split
  ·rename_i e
   show Own B _ 11 abl _ t.qs[k].mv _
   rw [D]; exact M
  ·rename_i I
   exact (h.mm _ (qy hi)).upd G (fun a ha e => N i hi (fun e => I e.symm) (by rw [ha, show a = g from e]))
 ·exact aj0
 ·exact aj1
 ·exact ahq
 ·exact aj2
theorem MkS.noEx {B m : Nat} {E : Value} {w : World} {t : StT} (h : MkS B m E w t) : MkS B m (.slice none 0 0) w t :=
 have D : ∀ v : VT, Rd (Far B m E t) w v → Rd (Far B m (.slice none 0 0) t) w v := fun v G => G.weaken (fun i _ hi => ⟨hi.1, hi.2.1, fun H => by
  rcases aab.1 H with e | e
  ·simp [Value.ownBlock] at e
  ·exact hi.2.2 (aab.2 (.inr e))⟩)
 ⟨h.a, h.mB, h.q, h.b, h.h, h.mm, h.p, h.tk, h.md, h.pd, fun b _ i _ e => by simp [Value.ownBlock] at e, fun q F x A => D _ (h.ra q F x A), fun b I x A => D _ (h.rb b I x A), h.wf⟩
theorem ain {D A : Type} {c : A → A → Int} {k : D → A} {L E : List D} (h : E.map k = L.map k) (F : RisK c k L) : RisK c k E := by
 unfold RisK at *
 rw [← List.pairwise_map (f := k) (R := fun a b => c a b < 0)] at F ⊢
 rw [h]; exact F
theorem aun {qs : List QuT} {r : Rf} {m1 m2 : Nat} (D : QsOk qs) (h : aqg qs r = (m1, m2, true)) : ∃ (I : m1 < qs.length) (J : m2 < qs[m1].zw.length), qs[m1].name = r.q ∧ qs[m1].zw[m2].id = r.id := by
 unfold aqg at h
 split at h
 ·rename_i hh
  obtain ⟨A, H⟩ := aec cmpB_ok D.rq hh; rw [List.getElem?_eq_getElem A] at h; simp only [jm] at h; obtain ⟨rfl, rfl, G⟩ := h; obtain ⟨E, F⟩ := aec cmpI_ok (D.rm _ (qy A)) G; exact ⟨A, E, H, F⟩
 ·simp only [jm] at h
  cases h.2.2
def aeu (qs : List QuT) (m1 m2 : Nat) : List QuT := if h : m1 < qs.length then if h2 : m2 < qs[m1].zw.length then qs.set m1 { qs[m1] with zw := qs[m1].zw.set m2 qs[m1].zw[m2].mark } else qs else qs
theorem ag7 {qs : List QuT} {m1 m2 : Nat} (D : m1 < qs.length) (A : m2 < qs[m1].zw.length) : aeu qs m1 m2 = qs.set m1 { qs[m1] with zw := qs[m1].zw.set m2 qs[m1].zw[m2].mark } := by
 unfold aeu; rw [dif_pos D, dif_pos A]
theorem ant (qs : List QuT) (m1 m2 : Nat) : (aeu qs m1 m2).length = qs.length := by
 unfold aeu; split
 ·split
  ·rw [List.length_set]
  ·rfl
 ·rfl
theorem az3 {qs : List QuT} {r : Rf} {m1 m2 : Nat} (D : QsOk qs) (A : m1 < qs.length) (F : m2 < qs[m1].zw.length) (G : qs[m1].name = r.q) (E : qs[m1].zw[m2].id = r.id) : ao1 (qs.map QuT.q) r = (aeu qs m1 m2).map QuT.q := by
 rw [ag7 A F]
 refine amj D.rq A G _ (v := qs[m1].mv) ?_
 apply List.ext_getElem (by simp)
 intro i hi H
 rw [zq, zq, zq, List.getElem_set]
 rw [jf, List.length_set] at hi
 by_cases e : m2 = i
 ·subst e
  rw [qw rfl, qw (show (qs[m1].zw[m2]).m.id = r.id from E)]; rfl
 ·rw [qk e, qk (fun h => aln cmpI_ok (D.rm _ (qy A)) hi F (fun x => e x.symm) ((show qs[m1].zw[i].id = r.id from h).trans E.symm))]
theorem QsOk.marked {qs : List QuT} {m1 m2 : Nat} (D : QsOk qs) (E : m1 < qs.length) (F : m2 < qs[m1].zw.length) : QsOk (aeu qs m1 m2) := by
 rw [ag7 E F]
 refine ⟨ain (adk E rfl) D.rq, fun q A => ?_, by rw [List.length_set]; exact D.lq, fun q A => ?_⟩
 ·rcases jd A with A | rfl
  ·exact D.rm q A
  ·exact ain (adk F rfl) (D.rm _ (qy E))
 ·rcases jd A with A | rfl
  ·exact D.lm q A
  ·show (qs[m1].zw.set m2 _).length ≤ _
   rw [List.length_set]; exact D.lm _ (qy E)
theorem axf {qs : List Qu} {r s : Rf} (h : hasM qs s = true) : hasM (ao1 qs r) s = true :=
 ajm h (fun _ l ⟨m, A, e⟩ => ⟨if m.id = r.id then m.mark else m, jv.2 ⟨m, A, rfl⟩, by split <;> exact e⟩)
theorem aqn {qs : List QuT} {r : Rf} (A : QsOk qs) (h : hasM (qs.map QuT.q) r = true) : (aqg qs r).2.2 = true := by
 obtain ⟨q, M, D, x, K, hi⟩ := ad1.1 h
 obtain ⟨t, G, rfl⟩ := jv.1 M
 obtain ⟨y, hy, rfl⟩ := jv.1 K
 have F : acv abf QuT.name qs r.q = true := (adr cmpB_ok).2 ⟨t, G, D⟩
 obtain ⟨E, H⟩ := aec cmpB_ok A.rq F
 unfold aqg
 rw [qw F, List.getElem?_eq_getElem E]
 obtain ⟨j, J, rfl⟩ := List.getElem_of_mem G
 have e : lbK abf QuT.name qs r.q = j := by
  by_cases e : lbK abf QuT.name qs r.q = j
  ·exact e
  ·exact jp (H.trans (show r.q = qs[j].name from D.symm)) (aln cmpB_ok A.rq E J e)
 show acv ad8 MsT.id (qs[lbK abf QuT.name qs r.q]).zw r.id = true
 refine (adr cmpI_ok).2 ⟨y, ?_, hi⟩
 have I : qs[lbK abf QuT.name qs r.q] = qs[j] := by congr 1
 rw [I]; exact hy
def az4 (l : List Qu) (r : List Rf) (i k : Nat) : Bool := match l[i]? with
 | none => false
 | some q => match q.zw[k]? with
  | none => false
  | some m => decide (0 < aa8 r ⟨q.name, m.id⟩)
def aoe (f : Nat → Nat → Bool) (l : List Qu) : List Qu := l.mapIdx (fun i q => { q with zw := q.zw.mapIdx (fun k m => if f i k then m.mark else m) })
theorem ahr {f g : Nat → Nat → Bool} {l : List Qu} (h : ∀ i (hi : i < l.length) k, k < l[i].zw.length → f i k = g i k) : aoe f l = aoe g l := by
 unfold aoe
 refine List.ext_getElem (by simp) (fun i A G => ?_)
 have hi : i < l.length := by simpa using A
 rw [List.getElem_mapIdx, List.getElem_mapIdx]
 congr 1
 refine List.ext_getElem (by simp) (fun k E F => ?_)
 have D : k < l[i].zw.length := by simpa using E
 rw [List.getElem_mapIdx, List.getElem_mapIdx, h i hi k D]
theorem aru {l : List Qu} {f : Nat → Nat → Bool} (h : ∀ i (hi : i < l.length) k, k < l[i].zw.length → f i k = false) : aoe f l = l := by
 rw [ahr (g := fun _ _ => false) h]
 unfold aoe
 refine List.ext_getElem (by simp) (fun i E G => ?_)
 rw [List.getElem_mapIdx]
 rcases hq : l[i] with ⟨n, A, D⟩
 congr 1
 refine List.ext_getElem (by simp) (fun k H F => ?_)
 rw [List.getElem_mapIdx]; simp
theorem amo {l : List Qu} {r : List Rf} {i k : Nat} (hi : i < l.length) (A : k < l[i].zw.length) : az4 l r i k = decide (0 < aa8 r ⟨l[i].name, l[i].zw[k].id⟩) := by
 unfold az4; rw [List.getElem?_eq_getElem hi]; dsimp only; rw [List.getElem?_eq_getElem A]
theorem axg (l : List Qu) (r : List Rf) : aoe (az4 l r) l = ab8 l r := by
 unfold aoe ab8
 refine List.ext_getElem (by simp) (fun i A G => ?_)
 have hi : i < l.length := by simpa using A
 rw [List.getElem_mapIdx, zq]
 congr 1
 refine List.ext_getElem (by simp) (fun k E F => ?_)
 have D : k < l[i].zw.length := by simpa using E
 rw [List.getElem_mapIdx, zq, amo hi D]
 by_cases h : 0 < aa8 r ⟨l[i].name, l[i].zw[k].id⟩
 ·rw [qw h, qp h]; rfl
 ·rw [qk h, qg h]; rfl
def f3 (l : List Qu) (r : List Rf) (i k j a b : Nat) : Bool := if a < i ∨ a = i ∧ b < k then az4 l r a b else if a = i ∧ b = k then az4 l (r.take j) a b else false
def Mk3 (l : List Qu) (r : List Rf) (i k j : Nat) (Q : List QuT) : Prop := Q.map QuT.q = aoe (f3 l r i k j) l
theorem amp (l : List Qu) (i k : Nat) : az4 l [] i k = false := by
 unfold az4; split; rfl; split; rfl; simp [adb]
theorem Mk3.zero {l : List Qu} {r : List Rf} {Q : List QuT} (h : Q.map QuT.q = l) : Mk3 l r 0 0 0 Q := by
 unfold Mk3; rw [aru]; exact h
 intro i hi k A
 unfold f3; rw [qk (by omega)]; split
 ·exact amp _ _ _
 ·rfl
theorem Mk3.to {l : List Qu} {r : List Rf} {i k j E A D : Nat} {Q : List QuT} (h : Mk3 l r i k j Q) (F : ∀ a (G : a < l.length) b, b < l[a].zw.length → f3 l r i k j a b = f3 l r E A D a b) : Mk3 l r E A D Q := by
 unfold Mk3 at h ⊢; rw [h]; exact ahr F
theorem Mk3.row {l : List Qu} {r : List Rf} {i k : Nat} {Q : List QuT} (h : Mk3 l r i k r.length Q) : Mk3 l r i (k + 1) 0 Q := h.to (fun a E b F => by
 unfold f3; rw [js]
 by_cases A : a < i ∨ a = i ∧ b < k
 ·rw [qw A, qw (by omega)]
 ·by_cases D : a = i ∧ b = k
  ·rw [qk A, qw D, qw (by omega)]
  ·rw [qk A, qk D, qk (by omega)]; split
   ·exact (amp _ _ _).symm
   ·rfl)
theorem Mk3.queue {l : List Qu} {r : List Rf} {i k : Nat} {Q : List QuT} (h : Mk3 l r i k 0 Q) (hi : i < l.length) (E : k = l[i].zw.length) : Mk3 l r (i + 1) 0 0 Q := h.to (fun a D b G => by
 unfold f3
 by_cases A : a < i ∨ a = i ∧ b < k
 ·rw [qw A, qw (by omega)]
 ·have F : ¬ a = i := fun e => by subst e; omega
  rw [qk A, qk (by omega), qk (by omega)]; split
  ·exact (amp _ _ _).symm
  ·rfl)
theorem Mk3.all {l : List Qu} {r : List Rf} {Q : List QuT} (h : Mk3 l r l.length 0 0 Q) : Q.map QuT.q = ab8 l r := by
 rw [← axg]; unfold Mk3 at h; rw [h]
 exact ahr (fun a A b D => by unfold f3; rw [qw (by omega)])
theorem Mk3.skip {l : List Qu} {r : List Rf} {i k j : Nat} {Q : List QuT} (h : Mk3 l r i k j Q) (hi : i < l.length) (A : k < l[i].zw.length) (E : j < r.length) (D : acz r[j] ⟨l[i].name, l[i].zw[k].id⟩ = false) : Mk3 l r i k (j + 1) Q := h.to (fun a F b G => by
 unfold f3
 split
 ·rfl
 ·split
  ·rename_i e; obtain ⟨rfl, rfl⟩ := e
   rw [amo hi A, amo hi A, jx E, aa6, acw, adb, D]; simp
  ·rfl)
theorem Mk3.places {l : List Qu} {r : List Rf} {i k j : Nat} {Q : List QuT} (h : Mk3 l r i k j Q) : ∃ G : Q.length = l.length, ∀ a (F : a < Q.length), Q[a].name = l[a].name ∧ ∃ H : Q[a].zw.length = l[a].zw.length, ∀ b (I : b < Q[a].zw.length), Q[a].zw[b].id = l[a].zw[b].id := by
 have G : Q.length = l.length := by have := congrArg List.length h; simpa [aoe] using this
 refine ⟨G, fun a F => ?_⟩
 have e : (Q.map QuT.q)[a]'(by simpa using F) = (aoe (f3 l r i k j) l)[a]'(by simp [aoe]; omega) := by congr 1
 unfold aoe at e
 rw [zq, List.getElem_mapIdx] at e
 have J : Q[a].name = l[a].name := congrArg Qu.name e
 have A := congrArg Qu.zw e
 have A : Q[a].zw.map MsT.m = l[a].zw.mapIdx _ := A
 have H : Q[a].zw.length = l[a].zw.length := by have := congrArg List.length A; simpa using this
 refine ⟨J, H, fun b I => ?_⟩
 have E : (Q[a].zw.map MsT.m)[b]'(by simpa using I) = (l[a].zw.mapIdx (fun c m => if f3 l r i k j a c = true then m.mark else m))[b]'(by simp; omega) := by congr 1
 rw [zq, List.getElem_mapIdx] at E
 have D := congrArg Ms.id E
 have D : Q[a].zw[b].id = _ := D
 rw [D]; split <;> rfl
theorem Mk3.hit {l : List Qu} {r : List Rf} {i k j : Nat} {Q : List QuT} (h : Mk3 l r i k j Q) (hi : i < l.length) (W : k < l[i].zw.length) (hj : j < r.length) (Y : acz r[j] ⟨l[i].name, l[i].zw[k].id⟩ = true) : Mk3 l r i k (j + 1) (aeu Q i k) := by
 obtain ⟨hl, Z⟩ := h.places
 have D : i < Q.length := by omega
 obtain ⟨-, hm, -⟩ := Z i D
 have G : k < Q[i].zw.length := by omega
 rw [ag7 D G]
 unfold Mk3 at h ⊢
 have K : ∀ a (A : a < Q.length) (O : a < l.length), Q[a].q = ⟨l[a].name, l[a].limit, l[a].zw.mapIdx (fun b m => if f3 l r i k j a b = true then m.mark else m)⟩ := fun a A O => by
  have e : (Q.map QuT.q)[a]'(by simpa using A) = (aoe (f3 l r i k j) l)[a]'(by simp [aoe]; omega) := by congr 1
  unfold aoe at e; rw [zq, List.getElem_mapIdx] at e; exact e
 have H : ∀ a b, ¬ (a = i ∧ b = k) → f3 l r i k (j + 1) a b = f3 l r i k j a b := fun a b M => by unfold f3; rw [qk M, qk M]
 have U : f3 l r i k (j + 1) i k = true := by
  unfold f3; rw [qk (by omega), qw ⟨rfl, rfl⟩, amo hi W, jx hj, aa6, acw, adb, Y]; simp
 unfold aoe
 refine List.ext_getElem (by simp; omega) (fun a h1 X => ?_)
 have A : a < l.length := by simpa using X
 rw [zq, List.getElem_set, List.getElem_mapIdx]
 by_cases e : i = a
 ·subst e
  rw [qw rfl]; have E := K i D hi; have e1 : Q[i].name = l[i].name := congrArg Qu.name E; have z : Q[i].limit = l[i].limit := congrArg Qu.limit E; have J : Q[i].zw.map MsT.m = _ := congrArg Qu.zw E; unfold QuT.q; dsimp only at J ⊢; rw [e1, z, List.map_set, J]; congr 1; refine List.ext_getElem (by simp) (fun b h3 N => ?_); have hb : b < l[i].zw.length := by simpa using N
  rw [List.getElem_set, List.getElem_mapIdx, List.getElem_mapIdx]; by_cases F : k = b
  ·subst F
   rw [qw rfl, U, qw rfl]; have I : (Q[i].zw.map MsT.m)[k]'(by simpa using G) = (l[i].zw.mapIdx (fun c m => if f3 l r i k j i c = true then m.mark else m))[k]'(by simp; omega) := by congr 1
   rw [zq, List.getElem_mapIdx] at I; rw [MsT.mark_m, I]; split <;> rfl
  ·rw [qk F, H i b (fun q => F q.2.symm)]
 ·rw [qk e, K a (by omega) A]
  congr 1; refine List.ext_getElem (by simp) (fun b h3 N => ?_); rw [List.getElem_mapIdx, List.getElem_mapIdx, H a b (fun q => e q.1.symm)]
theorem axh (qs : List QuT) (m1 m2 : Nat) : (aeu qs m1 m2).map QuT.mv = qs.map QuT.mv := by
 unfold aeu
 split
 ·split
  ·apply List.ext_getElem (by simp)
   intro a D A; rw [zq, zq, List.getElem_set]; split
   ·rename_i e; subst e; rfl
   ·rfl
  ·rfl
 ·rfl
theorem StOw.mark {B : Nat} {w : World} {t : StT} (h : StOw B w t) {k : Nat} (hk : k < t.qs.length) {g n c : Nat} (A : t.qs[k].mv = .slice (some ⟨g, 0, none⟩) n c) {j : Nat} (hj : j < t.qs[k].zw.length) :
 StOw B (w.setCell ⟨g, j * 11 + 3, none⟩ (.bool true)) { t with qs := t.qs.set k { t.qs[k] with zw := t.qs[k].zw.set j t.qs[k].zw[j].mark } } := by
 have hmem := qy hk
 have E : t.qs[k].mv.ownBlock = some g := by rw [A]; rfl
 have G := h.m _ hmem
 have F : Upd (fun i => i = g) w (w.setCell ⟨g, j * 11 + 3, none⟩ (.bool true)) := Upd.set (S := fun i => i = g) rfl _
 have N : ∀ i, t.qs[k].mv.ownBlock = some i → Mut t.mv i := fun i e => by
  unfold StT.mv; simp only [aab, abd]; exact .inr (.inr (.inr (.inl ⟨_, jw hmem, e⟩)))
 have O : ∀ i, Mut (StT.mv { t with qs := t.qs.set k { t.qs[k] with zw := t.qs[k].zw.set j t.qs[k].zw[j].mark } }) i → Mut t.mv i := fun i D => by
  unfold StT.mv at D ⊢; simp only [aab, abd] at D ⊢; rcases D with e | e | e | e | e
  ·exact .inl e
  ·exact .inr (.inl e)
  ·exact .inr (.inr (.inl e))
  ·obtain ⟨v, A, e⟩ := e
   obtain ⟨q, hq, rfl⟩ := jv.1 A; rcases jd hq with hq | rfl
   ·exact .inr (.inr (.inr (.inl ⟨_, jw hq, e⟩)))
   ·exact .inr (.inr (.inr (.inl ⟨_, jw hmem, e⟩)))
  ·exact .inr (.inr (.inr (.inr e)))
 have hfar : ∀ v : VT, Rd (fun i => B ≤ i ∧ ¬ Mut t.mv i) w v → Rd (fun i => B ≤ i ∧ ¬ Mut (StT.mv { t with qs := t.qs.set k { t.qs[k] with zw := t.qs[k].zw.set j t.qs[k].zw[j].mark } }) i) (w.setCell ⟨g, j * 11 + 3, none⟩ (.bool true)) v := fun v A =>
  (A.upd F (fun i hi e => hi.2 (N i (by rw [E, show i = g from e])))).weaken (fun i _ hi => ⟨hi.1, fun D => hi.2 (O i D)⟩)
 have hoth : ∀ {J : Type} {e n : Nat} {enc : J → List Value} {v : Value} {L : List J}, e ≠ 60 → Own B e n enc w v L → Own B e n enc (w.setCell ⟨g, j * 11 + 3, none⟩ (.bool true)) v L := fun h2 I =>
  I.upd F (fun i hi e => aaz I G h2 hi (by rw [show i = g from e]; exact E))
 have hpw := List.pairwise_iff_getElem.1 h.md
 have M : ∀ i, (hi : i < t.qs.length) → i ≠ k → t.qs[i].mv.ownBlock ≠ some g := fun i hi H e1 => by
  rcases Nat.lt_or_ge i k with q | q
  ·exact hpw i k hi hk q g e1 E
  ·exact hpw k i hk hi (by omega) g E e1
 have K := (A ▸ G).set aac j hj 3 (.bool true) t.qs[k].zw[j].mark (by omega) rfl
 have U : Own B 51 3 aar (w.setCell ⟨g, j * 11 + 3, none⟩ (.bool true)) t.qv (t.qs.set k { t.qs[k] with zw := t.qs[k].zw.set j t.qs[k].zw[j].mark }) := by
  exact alr
 refine ⟨U, hoth (by decide) h.b, hoth (by decide) h.h, fun q hq => ?_, fun b hb => hoth (by decide) (h.p b hb), fun b hb => hoth (by decide) (h.tk b hb), ?_, h.pd, fun q hq x hx' => ?_, fun b hb x hx' => hfar _ (h.rb b hb x hx'), ⟨h.wf.n, fun q hq => ?_, fun q hq => ?_, h.wf.bx, h.wf.pi, h.wf.ti, h.wf.hx⟩⟩
 ·obtain ⟨i, hi, rfl⟩ := List.getElem_of_mem hq
  rw [List.length_set] at hi; rw [List.getElem_set]; split
  ·rename_i e
   show Own B _ 11 abl _ t.qs[k].mv _
   rw [A]; exact K
  ·rename_i H
   exact (h.m _ (qy hi)).upd F (fun a ha e => M i hi (fun e => H e.symm) (by rw [ha, show a = g from e]))
 ·exact aj0
 ·exact aj1
 ·exact ahq
 ·exact aj2
def aj3 (qs : List QuT) (m1 m2 : Nat) (v : Value) : List QuT := if h : m1 < qs.length then qs.set m1 { qs[m1] with mv := v, zw := qs[m1].zw.eraseIdx m2 } else qs
theorem aio {qs : List QuT} {m1 m2 : Nat} {v : Value} (A : m1 < qs.length) : aj3 qs m1 m2 v = qs.set m1 { qs[m1] with mv := v, zw := qs[m1].zw.eraseIdx m2 } := by
 unfold aj3; rw [dif_pos A]
theorem auo (qs : List QuT) (m1 m2 : Nat) (v : Value) : (aj3 qs m1 m2 v).length = qs.length := by
 unfold aj3; split
 ·rw [List.length_set]
 ·rfl
theorem axi {qs : List QuT} {r : Rf} {m1 m2 : Nat} {v : Value} (D : QsOk qs) (A : m1 < qs.length) (G : m2 < qs[m1].zw.length) (H : qs[m1].name = r.q) (E : qs[m1].zw[m2].id = r.id) : ad9 (qs.map QuT.q) r = (aj3 qs m1 m2 v).map QuT.q := by
 rw [aio A]
 refine amj D.rq A H _ ?_
 have F := D.rm _ (qy A)
 rw [at0, ← ajp cmpI_ok (ad6 (c := ad8) (k := Ms.id) (g := MsT.m) |>.2 F) (by simpa using G) (x := r.id) (by rw [zq]; exact E)]
theorem QsOk.taken {qs : List QuT} {m1 m2 : Nat} {v : Value} (D : QsOk qs) (E : m1 < qs.length) : QsOk (aj3 qs m1 m2 v) := by
 rw [aio E]
 refine ⟨ain (adk E rfl) D.rq, fun q A => ?_, by rw [List.length_set]; exact D.lq, fun q A => ?_⟩
 ·rcases jd A with A | rfl
  ·exact D.rm q A
  ·have h := D.rm _ (qy E)
   exact List.Pairwise.sublist (List.eraseIdx_sublist _ _) h
 ·rcases jd A with A | rfl
  ·exact D.lm q A
  ·exact jk (List.eraseIdx_sublist _ _).length_le (D.lm _ (qy E))
theorem aup {qs : List Qu} {r s : Rf} (h : hasM qs s = true) (A : s ≠ r) : hasM (ad9 qs r) s = true :=
 ajm h (fun H l ⟨m, F, e⟩ => ⟨m, List.mem_filter.2 ⟨F, qp (fun E => A (by
  obtain ⟨a, b⟩ := s; obtain ⟨c, d⟩ := r; have D : a = c := H; have G : b = d := e.symm.trans E
  rw [D, G]))⟩, e⟩)
def axj (qs : List QuT) (i : Nat) (v : Value) (x : MsT) : List QuT := if h : i < qs.length then qs.set i { qs[i] with mv := v, zw := qs[i].zw ++ [x] } else qs
theorem amq {qs : List QuT} {i : Nat} {v : Value} {x : MsT} (h : i < qs.length) : axj qs i v x = qs.set i { qs[i] with mv := v, zw := qs[i].zw ++ [x] } := by
 unfold axj; rw [dif_pos h]
theorem az5 {nx : Int} {qv bv A v : Value} {qs : List QuT} {zk : List BrT} {hs : List He} {p : Pt} {x : MsT} {i : Nat} (E : RisK abf QuT.name qs) (h : i < qs.length) (F : qs[i].name = p.q) (D : x.m = ⟨p.id, p.pr, p.body⟩) :
 aod (StT.mk nx qv bv A qs zk hs).s p = (StT.mk (p.id + 1) qv bv A (axj qs i v x) zk hs).s := by
 rw [amq h]
 unfold aod StT.s
 dsimp only
 rw [amj E h F _ (v := v) (L := qs[i].zw ++ [x]) (by rw [List.map_append, List.map_singleton, D])]
structure QsN (qs Q : List QuT) (k : Nat) : Prop where
 nm : Q.map QuT.name = qs.map QuT.name
 lm : ∀ q ∈ Q, q.zw.length ≤ 1000000 + k
theorem QsN.len {qs Q : List QuT} {k : Nat} (h : QsN qs Q k) : Q.length = qs.length := by
 have := congrArg List.length h.nm
 rwa [jf, jf] at this
theorem QsN.ris {qs Q : List QuT} {k : Nat} (h : QsN qs Q k) (A : RisK abf QuT.name qs) : RisK abf QuT.name Q := ain h.nm A
theorem QsN.hit {qs Q : List QuT} {k : Nat} (h : QsN qs Q k) {n : ByteArray} (A : ad0 (qs.map QuT.q) n = true) : acv abf QuT.name Q n = true := by
 rw [← anm, adr cmpB_ok] at A
 refine (adr cmpB_ok).2 ?_
 obtain ⟨q, A, e⟩ := A
 have D : n ∈ Q.map QuT.name := by rw [h.nm, ← e]; exact jw A
 obtain ⟨p, E, e⟩ := jv.1 D
 exact ⟨p, E, e⟩
theorem QsN.put {qs Q : List QuT} {k i : Nat} {v : Value} {x : MsT} (h : QsN qs Q k) (hi : i < Q.length) : QsN qs (axj Q i v x) (k + 1) := by
 rw [amq hi]
 refine ⟨by rw [adk hi (x := { Q[i] with mv := v, zw := Q[i].zw ++ [x] }) rfl]; exact h.nm, fun q A => ?_⟩
 rcases jd A with A | rfl
 ·exact Nat.le_succ_of_le (h.lm q A)
 ·show (_ ++ [x]).length ≤ _
  rw [jz]; exact Nat.add_le_add_right (h.lm _ (qy hi)) 1
theorem apl (qs : List Qu) (r : Rf) : (ad9 qs r).map Qu.name = qs.map Qu.name := by
 unfold ad9 amb
 rw [List.map_map]
 congr 1
 funext q
 exact ae6 q _ _
theorem aj4 : ∀ (l : List Rf) (qs : List Qu), (l.foldl ad9 qs).map Qu.name = qs.map Qu.name
 | [], _ => rfl
 | r :: l, qs => (aj4 l _).trans (apl qs r)
theorem QsN.of {qs Q : List QuT} {l : List Rf} (D : Q.map QuT.q = l.foldl ad9 (qs.map QuT.q)) (A : QsOk Q) : QsN qs Q 0 := by
 refine ⟨?_, A.lm⟩
 have h := congrArg (List.map Qu.name) D
 rw [aj4, List.map_map, List.map_map] at h
 exact h
theorem az6 {nx F : Int} {qv bv E v : Value} {Q : List QuT} {zk : List BrT} {hs : List He} {i : Nat} {x : MsT} (H : i < Q.length) {k : Nat} (A : Mut (StT.mk F qv bv E (axj Q i v x) zk hs).mv k) : Mut (StT.mk nx qv bv E Q zk hs).mv k ∨ v.ownBlock = some k := by
 rw [amq H] at A
 unfold StT.mv at A ⊢
 simp only [aab, abd] at A ⊢
 rcases A with e | e | e | e | e
 ·exact .inl (.inl e)
 ·exact .inl (.inr (.inl e))
 ·exact .inl (.inr (.inr (.inl e)))
 ·obtain ⟨u, G, e⟩ := e
  obtain ⟨q, D, rfl⟩ := jv.1 G; rcases jd D with D | rfl
  ·exact .inl (.inr (.inr (.inr (.inl ⟨_, jw D, e⟩))))
  ·exact .inr e
 ·exact .inl (.inr (.inr (.inr (.inr e))))
theorem aj5 {P : Prop} (h : P := by
 unfold StT.mv at hM
 simp only [aab, abd] at hM
 rcases hM with e | e | e | ⟨u, hu, e⟩ | ⟨u, hu, e⟩
 ·exact h.q.ge e
 ·exact h.b.ge e
 ·exact h.h.ge e
 ·obtain ⟨q, hq, rfl⟩ := jv.1 hu; exact (h.mm q hq).ge e
 ·obtain ⟨q, hq, rfl⟩ := jv.1 hu; exact (h.p q hq).ge e) : P := h
theorem MkS.mutB {B m : Nat} {A : Value} {w : World} {t : StT} (h : MkS B m A w t) {i : Nat} (hM : Mut t.mv i) : B ≤ i := by
 exact aj5
theorem MkS.mutL {B m : Nat} {F : Value} {w : World} {t : StT} (h : MkS B m F w t) {i : Nat} (A : Mut t.mv i) : i < w.heap.size := by
 unfold StT.mv at A
 simp only [aab, abd] at A
 rcases A with e | e | e | ⟨u, E, e⟩ | ⟨u, E, e⟩
 ·exact h.q.lt e
 ·exact h.b.lt e
 ·exact h.h.lt e
 ·obtain ⟨q, D, rfl⟩ := jv.1 E; exact (h.mm q D).lt e
 ·obtain ⟨q, D, rfl⟩ := jv.1 E; exact (h.p q D).lt e
end Go.Proofs.YtgnaifhmcllnlaaGreatDoor
