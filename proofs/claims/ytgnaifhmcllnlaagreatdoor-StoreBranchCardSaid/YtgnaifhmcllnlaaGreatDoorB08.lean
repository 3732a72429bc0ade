/- A message put into a queue: by place and by name. Conditions: none. (Texts joined.) -/
import Derived.Test.YtgnaifhmcllnlaaGreatDoorB07
set_option maxRecDepth 100000
set_option maxHeartbeats 12800000
set_option linter.unusedSimpArgs false
set_option linter.unusedVariables false
namespace Go.Proofs.YtgnaifhmcllnlaaGreatDoor
open Go.RowKit Go.Maps Tryz
theorem aul (S : Nat → Prop) (u : World) : Upd S u u.drew := (Upd.refl S u).drew
theorem alq {u w2 : World} {b : Nat} (h : u.grownBy w2 (some b)) : Upd (fun k => k = b) u w2 :=
 Upd.grown (S := fun k => k = b) h (fun k hk => by injection hk with hk; exact hk.symm)
theorem anq {l : List Rf} {r : Rf} : aem (l ++ [r]) = true ↔ aem l = true ∧ aa8 l r = 0 := by
 rw [ajl, ajl]
 constructor
 ·intro h
  refine ⟨fun i hi => ?_, ?_⟩
  ·have := h i (by simp; omega)
   rwa [List.getElem_append_left hi, List.take_append_of_le_length (by omega)] at this
  ·have := h l.length (by simp)
   simpa using this
 ·rintro ⟨h1, h2⟩ i hi
  rcases Nat.lt_or_ge i l.length with q | q
  ·rw [List.getElem_append_left q, List.take_append_of_le_length (by omega)]; exact h1 i q
  ·obtain rfl : i = l.length := by simp at hi; omega
   simpa using h2
theorem axe {a b : List Rf} (h : aem (a ++ b) = true) : aem a = true := by
 rw [ajl] at *
 intro i hi
 have := h i (by rw [jz]; omega)
 rwa [List.getElem_append_left hi, List.take_append_of_le_length (by omega)] at this
theorem anr {l : List BrT} {i : Nat} (hi : i < l.length) : ace ((l.take (i + 1)).map BrT.b) = ace ((l.take i).map BrT.b) ++ l[i].zy := by
 rw [jx hi, List.map_append]
 unfold ace
 rw [List.flatMap_append]
 simp [BrT.b]
theorem ars (l : List BrT) (i : Nat) (hi : i < l.length) (k : Nat) : ∃ t, ace (l.map BrT.b) = (ace ((l.take i).map BrT.b) ++ l[i].zy.take k) ++ t := by
 refine ⟨l[i].zy.drop k ++ ace ((l.drop (i + 1)).map BrT.b), ?_⟩
 have e : ace (l.map BrT.b) = ace ((l.take (i + 1)).map BrT.b) ++ ace ((l.drop (i + 1)).map BrT.b) := by
  unfold ace; rw [← List.flatMap_append, ← List.map_append, List.take_append_drop]
 rw [e, anr hi]
 simp only [List.append_assoc]
 conv => lhs; rw [← List.take_append_drop k l[i].zy]
 simp only [List.append_assoc]
def art (qs : List Qu) (b : Br) : Bool := b.en.okB && b.zu.all (fun p => ad0 qs p.q) && b.zy.all (hasM qs)
theorem az1 {qs : List Qu} {l : List BrT} {i : Nat} (hi : i < l.length) (hb : art qs l[i].b = false) : ane qs (l.map BrT.b) = false := by
 cases ho : ane qs (l.map BrT.b) with
 | false => rfl
 | true =>
  unfold ane at ho; simp only [jj] at ho; have h := ho.1.1; rw [jt] at h; have := h _ (jv.2 ⟨_, qy hi, rfl⟩); unfold art at hb; rw [hb] at this; cases this
theorem aum {qs : List Qu} {l : List BrT} {i : Nat} (hi : i < l.length) {k : Nat} (hk : k < l[i].zy.length) (hb : aa8 (ace ((l.take i).map BrT.b) ++ l[i].zy.take k) l[i].zy[k] ≠ 0) : ane qs (l.map BrT.b) = false := by
 cases ho : ane qs (l.map BrT.b) with
 | false => rfl
 | true =>
  unfold ane at ho; simp only [jj] at ho; have h := ho.1.2; obtain ⟨t, ht⟩ := ars l i hi (k + 1); rw [ht] at h; have h2 := axe h; rw [jx hk, ← List.append_assoc, anq] at h2; exact jp h2.2 hb
theorem az2 {qs : List Qu} {l : List BrT} (h : ∀ i, (hi : i < l.length) → art qs l[i].b = true) (ho : aem (ace (l.map BrT.b)) = true) : ane qs (l.map BrT.b) = aia aav BrT.x l := by
 unfold ane
 have h1 : (l.map BrT.b).all (fun b => b.en.okB && b.zu.all (fun p => ad0 qs p.q) && b.zy.all (hasM qs)) = true := by
  exact ajv
 rw [h1, ho, Bool.true_and, Bool.true_and, Bool.eq_iff_iff, ad4 abu, ad4 abu]
 exact ad6 (c := aav) (k := Br.x) (g := BrT.b)
theorem aim (w : World) (xf : Int) (xg xb : ByteArray) (pa : Option Addr) (pn pc : Nat) (ta : Option Addr) (tn tc : Nat) : Calls prog 73 #[.agg #[.int .u32 xf, .string xg, .string xb, .slice pa pn pc, .slice ta tn tc]] w fun e w' => e = .returned (.agg #[.int .u8 4, .string ⟨#[]⟩, .int .u64 0, .int .u32 xf, .string xg, .string xb, .slice pa pn pc, .slice ta tn tc]) ∧ Below w.heap.size w w' := by
 have zi := aty; have zx := ahk
 have hA := qq (((qz w.heap.size w).alloc (qj _) (.cells #[.int .u32 xf, .string xg, .string xb, .slice pa pn pc, .slice ta tn tc] 62)).alloc (by simp) (.cells #[.int .u8 4, .string ⟨#[]⟩, .int .u64 0, .int .u32 xf, .string xg, .string xb, .slice pa pn pc, .slice ta tn tc] 34))
 have K := qq (Blk.newE (w.alloc (.cells #[.int .u32 xf, .string xg, .string xb, .slice pa pn pc, .slice ta tn tc] 62)) [.int .u8 4, .string ⟨#[]⟩, .int .u64 0, .int .u32 xf, .string xg, .string xb, .slice pa pn pc, .slice ta tn tc] 34 (w.heap.size + 1) (by simp))
 go_enter func73, ntmps73
 go_wp2
 have K := K.out; have hA := hA.out
 obtain ⟨k0, k1, k2, k3, k4, k5, k6, k7⟩ := K.a8
 refine bodyPost_ret (by simp [results, Tryz.results73, go_sem, k0, k1, k2, k3, k4, k5, k6, k7]; rfl) rfl ?_
 exact ⟨rfl, hA⟩
theorem ajw {P : Prop} (h : P := by
 refine aai 6 rfl (fun Kq hKq => ?_)
 go_simp
 refine hKq.out _ _ hb2 (fun zg => ?_)
 clear hKq Kq
 (try simp only [Act.put, lsT, lsZ, lsS])
 refine wpAnyH_done (by kernel_rfl) ?_ _
 have hpre := qq (show ace ((zk.take i).map BrT.b) ++ zy.take (k + 1) = (ace ((zk.take i).map BrT.b) ++ zy.take k) ++ [⟨q, id⟩] by rw [jx hkt, hxh2.out, List.append_assoc])
 have M4 : RefsM w5 mb (aib (ace ((zk.take i).map BrT.b) ++ zy.take (k + 1))) (if (aib (ace ((zk.take i).map BrT.b) ++ zy.take k) ⟨q, id⟩).isSome then cn else cn + 1) := M3.ext (fun x _ => by rw [hpre.out, ← axd, hcch.out, hwrh.out])
 have hcn3 := qq (show aa8 (ace ((zk.take i).map BrT.b) ++ zy.take (k + 1)) ⟨q, id⟩ = c + 1 by rw [hpre.out, aa6, hcch.out, acw, adb, qw (abt.2 rfl)])
 have hcn4 : (if (aib (ace ((zk.take i).map BrT.b) ++ zy.take k) ⟨q, id⟩).isSome then cn else cn + 1) ≤ 100 * i + (k + 1) := by split <;> omega
 generalize (if (aib (ace ((zk.take i).map BrT.b) ++ zy.take k) ⟨q, id⟩).isSome then cn else cn + 1) = cn' at M4 hcn4
 have N5 := N1.upd hb2 hne
 have hBU := hBu.trans (hAl.mono hBu.size)
 have hB5 : Below w.heap.size w w5 := hBU.trans (hb2.below hBU.size (fun b e => by have e : b = mb := e; have := hmwh.out; omega))
 have A5 := (A3.pure hAl).upd hb2 (fun e => by have e : w.heap.size = mb := e; have := hmwh.out; omega)
 have hU5 := (hU.trans (Upd.of_below (S := fun b => b = mb) hAl) (fun b e _ => e)).trans hb2 (fun b e _ => e)
 clear M1 M2 M3 hrun hrun2 hl1 hl2 hst hb hb1 hb2 hg1 hg2 N1 zg hU
 obtain ⟨d0, d1⟩ := N5.a2; obtain ⟨a0, a1, a2, a3⟩ := A5.a4
 cases mh
 ·have hz := qq (hbadb.out (by
   cases h : art QL (BrT.mk (xf, xg, xb) (.slice pa zu.length pc) (.slice (some ⟨g3, off3, none⟩) zy.length tc) zu zy).b with
   | false => rfl
   | true =>
    unfold art at h; simp only [jj, jt] at h; have := h.2 zy[k] (qy hkt)
    rw [hhm.out] at this; cases this))
  go_wp2_with (go_at_call 101; (with_reducible refine (hma1h.out _ hB5).mono ?_); rintro e w6 ⟨rfl, hB6⟩; have hF := hB5.trans (hB6.mono hB5.size); have M5 := M4.pure hB6; have N6 := N5.pure hB6; (clear d0 d1); obtain ⟨d0, d1⟩ := N6.a2; have hl3 := M5.look_run arr hokh2.out; simp only [ail, hcn3.out] at hl3; unfold kvR evN at hl3); go_ret; exact ⟨by rw [hz.out]; rfl, hF⟩
 by_cases hc0 : c = 0
 ·subst hc0
  have hon3 := qq (show aem (ace ((zk.take i).map BrT.b) ++ zy.take (k + 1)) = true by rw [hpre.out]; exact anq.2 ⟨hon2.out, hcch.out⟩)
  have htg2 := qq (show ∀ r ∈ zy.take (k + 1), hasM QL r = true from fun r hr => by
   rw [jx hkt] at hr; rcases List.mem_append.1 hr with hr | hr
   ·exact htg.out r hr
   ·rw [jc.1 hr]; exact hhm.out)
  go_wp2_with (go_at_call 101; (with_reducible refine (hma1h.out _ hB5).mono ?_); rintro e w6 ⟨rfl, hB6⟩; have hF := hB5.trans (hB6.mono hB5.size); have M5 := M4.pure hB6; have N6 := N5.pure hB6; (clear d0 d1); obtain ⟨d0, d1⟩ := N6.a2; have hl3 := M5.look_run arr hokh2.out; simp only [ail, hcn3.out] at hl3; unfold kvR evN at hl3); go_roundw
  case rel => exact ⟨k + 1, cn', by omega, by go_num, htg2, hon3, hU5.trans (Upd.of_below (S := fun b => b = mb) hB6) (fun b e _ => e), M5, hcn4⟩
  case measure => simp [intOf]; omega
 ·have hz := qq (show ane QL (zk.map BrT.b) = false from aum hlt (k := k) (by rw [hxh.out]; exact hkt) (by
   simp only [hxh.out, hxh2.out]
   rw [hcch.out]; exact hc0))
  have hc1 : (1 : Int) < (c : Int) + 1 := by omega
  have hc2 : decide ((1 : Int) < (c : Int) + 1) = true := qp hc1; have hc3 : (1 : Int) < ((c + 1 : Nat) : Int) := by omega
  go_wp2_with (go_at_call 101; (with_reducible refine (hma1h.out _ hB5).mono ?_); rintro e w6 ⟨rfl, hB6⟩; have hF := hB5.trans (hB6.mono hB5.size); have M5 := M4.pure hB6; have N6 := N5.pure hB6; (clear d0 d1); obtain ⟨d0, d1⟩ := N6.a2; have hl3 := M5.look_run arr hokh2.out; simp only [ail, hcn3.out] at hl3; unfold kvR evN at hl3); go_ret
  exact ⟨by rw [hz.out]; rfl, hF⟩) : P := h
theorem ans (hCk : ayk) (w : World) (nx : Int) (qa : Option Addr) (qc : Nat) (ba : Option Addr) (bc : Nat) (ha : Option Addr) (hc : Nat) (qs : List QuT) (zk : List BrT) (hs : List He) (P : Nat → Prop) (hR : QsRd P w (.slice qa qs.length qc) qs) (hbs : Slc aa7 5 w (.slice ba zk.length bc) zk) (hbe : ∀ b ∈ zk, EnRd P w b.en) (hT : Tb w) (hok : QsOk qs) (hqs : qsB nx (qs.map QuT.q) = true) (hL : zk.length ≤ 1000000) :
 Calls prog 48 #[.agg #[.int .u64 nx, .slice qa qs.length qc, .slice ba zk.length bc, .slice ha hs.length hc]] w fun e w' => e = .returned (.bool (ane (qs.map QuT.q) (zk.map BrT.b))) ∧ Below w.heap.size w w' := by
 have hbsh := qq hbs; have hbeh := qq hbe; have hqsh := qq hqs
 have hli : (zk.length : Int) ≤ 1000000 := by omega
 have hB1 := (qz w.heap.size w).alloc (qj _) (.cells #[.int .u64 nx, .slice qa qs.length qc, .slice ba zk.length bc, .slice ha hs.length hc] 27)
 have A1 := Blk.new w [.int .u64 nx, .slice qa qs.length qc, .slice ba zk.length bc, .slice ha hs.length hc] 27
 have hat := fun (u : World) (h : Below w.heap.size w u) (y : ByteArray) => atQ u nx qa qs.length qc ba zk.length bc ha hs.length hc qs y (hR.s.pure h) P (fun x hx => (hR.m x hx).pure h) hok.rq hok.lq
 have hma := fun (u : World) (h : Below w.heap.size w u) (q : ByteArray) (id : Int) => ag6 u nx qa qc ba zk.length bc ha hs.length hc qs P q id (hR.pure h) hok
 have hri := fun (u : World) (h : Below w.heap.size w u) => bdj u (.slice ba zk.length bc) zk (hbs.pure h) P (fun x hx => (hbe x hx).pure h) hL
 have hrih := qq hri; have hath := qq hat; have hmah := qq hma
 obtain ⟨QL, hQL⟩ := zz (qs.map QuT.q)
 have hQLh := qq hQL
 rw [hQL]
 clear hR hL hri hbs hbe hok hqs hat hma hQL
 have hmm := @run_makeMap prog
 go_enter func48, ntmps48
 go_upto_region 2 with fail
 clear hmm
 have M0 : RefsM ((w.alloc (.cells #[.int .u64 nx, .slice qa qs.length qc, .slice ba zk.length bc, .slice ha hs.length hc] 27)).alloc (.map #[] 0)) (w.alloc (.cells #[.int .u64 nx, .slice qa qs.length qc, .slice ba zk.length bc, .slice ha hs.length hc] 27)).heap.size (aib (ace ((zk.take 0).map BrT.b))) 0 := MapG.made (w.alloc (.cells #[.int .u64 nx, .slice qa qs.length qc, .slice ba zk.length bc, .slice ha hs.length hc] 27))
 have A2 := A1.alloc (.map #[] 0)
 have hB2 := hB1.alloc hB1.size (.map #[] 0)
 have hmw : w.heap.size + 1 = (w.alloc (.cells #[.int .u64 nx, .slice qa qs.length qc, .slice ba zk.length bc, .slice ha hs.length hc] 27)).heap.size := by simp
 rw [← hmw] at M0
 obtain ⟨mb, hmb⟩ := zz (w.heap.size + 1)
 rw [hmb] at M0 ⊢
 have hmbh := qq hmb
 generalize (w.alloc (.cells #[.int .u64 nx, .slice qa qs.length qc, .slice ba zk.length bc, .slice ha hs.length hc] 27)).alloc (.map #[] 0) = w2 at M0 A2 hB2 ⊢
 clear A1 hB1 hmw hmb
 have a2 := A2.at 2 rfl
 go_wp2
 clear a2
 go_loopw [19] (fun s19 wr => ∃ i cnt : Nat, i ≤ zk.length ∧ s19 = .int .i64 i ∧ Hid (∀ j, (h : j < zk.length) → j < i → art QL zk[j].b = true) ∧ Hid (aem (ace ((zk.take i).map BrT.b)) = true) ∧ Below w.heap.size w wr ∧ Blk wr w.heap.size [.int .u64 nx, .slice qa qs.length qc, .slice ba zk.length bc, .slice ha hs.length hc] ∧ RefsM wr mb (aib (ace ((zk.take i).map BrT.b))) cnt ∧ cnt ≤ 100 * i) (fun s19 _ => zk.length - (intOf s19).toNat)
 case atStart => exact ⟨0, 0, Nat.zero_le _, rfl, qq (fun j h h' => jp h' (by omega)), qq rfl, hB2, A2, M0, qj _⟩
 case round =>
  obtain ⟨i, cnt, hi, rfl, hall, hon, hB, A, M, hcn⟩ := hrel; clear A2 hB2 M0; by_cases hlt : i < zk.length
  ·have hSl := hbsh.out.pure hB
   obtain ⟨g, off, rfl⟩ := hSl.addrB hlt; obtain ⟨xf, xg, xb, pa, pc, ta, tc, zu, zy, hx, hpl, htl, c0, c1, c2, c3, c4⟩ := adq hSl hlt ((hbeh.out _ (qy hlt)).pure hB); have hen := qq (show EnRd P wr (BrT.mk (xf, xg, xb) (.slice pa zu.length pc) (.slice ta zy.length tc) zu zy).en by have h := (hbeh.out _ (qy hlt)).pure hB; rw [hx] at h; exact h); have hbadb := qq (fun (h : art QL (BrT.mk (xf, xg, xb) (.slice pa zu.length pc) (.slice ta zy.length tc) zu zy).b = false) => show ane QL (zk.map BrT.b) = false from az1 hlt (by rw [hx]; exact h)); have hpi : (zu.length : Int) ≤ 9223372036854775807 := by unfold maxLen at hpl; omega
   have hti : (zy.length : Int) ≤ 9223372036854775807 := by unfold maxLen at htl; omega
   have hxh := qq hx; clear hx hpl htl hSl; go_upto_region 5 with fail; have Q0 := Blk.new wr [.int .u32 xf, .string xg, .string xb, .slice pa zu.length pc, .slice ta zy.length tc] 62; have hAl := (qz wr.heap.size wr).alloc (qj _) (.cells #[.int .u32 xf, .string xg, .string xb, .slice pa zu.length pc, .slice ta zy.length tc] 62); have Ar := A.pure hAl; have hBq := hB.trans (hAl.mono hB.size); have Mr := M.pure hAl; have hen := qq (hen.out.pure hAl); have hqm := M.lt; have hqa := A.lt; generalize wr.heap.size = qb at Q0 hqm hqa ⊢; generalize wr.alloc (.cells #[.int .u32 xf, .string xg, .string xb, .slice pa zu.length pc, .slice ta zy.length tc] 62) = u at Q0 Ar hBq Mr hen ⊢; clear c0 c1 c2 c3 c4 hAl A M hB hqm hqa; obtain ⟨b0, b1, b2, b3, b4⟩ := Q0.a5; obtain ⟨ck, hck⟩ := zz ((BrT.mk (xf, xg, xb) (.slice pa zu.length pc) (.slice ta zy.length tc) zu zy).en.e.chk); have hckc : ∀ (v : World), Below u.heap.size u v → Calls prog 27 #[.agg #[.int .u8 4, .string ⟨#[]⟩, .int .u64 0, .int .u32 xf, .string xg, .string xb, .slice pa zu.length pc, .slice ta zy.length tc]] v fun e w' => e = .returned (.int .i64 ck) ∧ Below v.heap.size v w' := fun v h => by rw [← hck]; exact hCk (BrT.mk (xf, xg, xb) (.slice pa zu.length pc) (.slice ta zy.length tc) zu zy).en P v (hen.out.pure h) ((hT.pure hBq).pure h)
   have hckch := qq hckc; have hckh := qq hck; clear hckc hck; by_cases hc0 : ck = 0
   rotate_left 1
   ·have hz := qq (hbadb.out (by
     unfold art
     have : (BrT.mk (xf, xg, xb) (.slice pa zu.length pc) (.slice ta zy.length tc) zu zy).b.en.okB = false := by
      cases h : (BrT.mk (xf, xg, xb) (.slice pa zu.length pc) (.slice ta zy.length tc) zu zy).b.en.okB with
      | false => rfl
      | true => exact jp (hckh.out.symm.trans (bbm.2 h)) hc0
     rw [this]; rfl))
    have hc1 : (ck != 0) = true := bne_iff_ne.2 hc0; go_wp2_with (first | (go_at_call 73; (with_reducible refine (aim _ xf xg xb pa zu.length pc ta zy.length tc).mono ?_); rintro e w3 ⟨rfl, hB3⟩) | (go_at_call 27; (with_reducible refine (hckch.out _ hB3).mono ?_); rintro e w4 ⟨rfl, hB4⟩; have hF := (hBq.trans (hB3.mono hBq.size)).trans (hB4.mono (jk hBq.size hB3.size)))); go_ret; exact ⟨by rw [hz.out]; rfl, hF⟩
   subst hc0; have heok := qq (show (BrT.mk (xf, xg, xb) (.slice pa zu.length pc) (.slice ta zy.length tc) zu zy).b.en.okB = true from bbm.1 hckh.out); have hp100 := qq (ame heok.out); go_upto_region 7 with (first | (go_at_call 73; (with_reducible refine (aim _ xf xg xb pa zu.length pc ta zy.length tc).mono ?_); rintro e w3 ⟨rfl, hB3⟩) | (go_at_call 27; (with_reducible refine (hckch.out _ hB3).mono ?_); rintro e w4 ⟨rfl, hB4⟩; have hF := hB3.trans (hB4.mono hB3.size))); have Q1 := Q0.pure hF; have A1 := Ar.pure hF; have M1 := Mr.pure hF; have hen := qq (hen.out.pure hF); have hBt := hBq.trans (hF.mono hBq.size); clear b0 b1 b2 b3 b4 Q0 Ar Mr hBq hB3 hB4 hF hckch; have b3 := Q1.at 3 rfl; go_wp2; clear b3; go_loopw [30] (fun s30 wr => ∃ k : Nat, k ≤ zu.length ∧ s30 = .int .i64 k ∧ Hid (∀ p ∈ zu.take k, ad0 QL p.q = true) ∧ Below w4.heap.size w4 wr) (fun s30 _ => zu.length - (intOf s30).toNat)
   case atStart => exact ⟨0, Nat.zero_le _, rfl, qq (fun p hp => by simp at hp), qz _ _⟩
   case round =>
    obtain ⟨k, hk, rfl, hpg, hB⟩ := hrel; have hBr := hBt.trans (hB.mono hBt.size); have A2 := A1.pure hB; by_cases hkt : k < zu.length
    ·have hen2 := hen.out.pure hB
     have hSl : Slc aat 12 wr (.slice pa zu.length pc) zu := hen2.p; have hRd := hen2.r zu[k] (qy hkt); obtain ⟨g2, off2, rfl⟩ := hSl.addrB hkt; obtain ⟨q, id, key, dur, red, mid, uk, un, us, uka, ukc, ula, ulc, uks, ul, body, hx, c0, c1, c2, c3, c4, c5, c6, c7, c8, c9, c10, c11⟩ := ad5 hSl hkt hRd; have hq : zu[k].q = q := by rw [hx]
     have hkti : (k : Int) < (zu.length : Int) := by omega
     have hat1 := fun (v : World) (h : Below wr.heap.size wr v) => hath.out v (hBr.trans (h.mono hBr.size)) q
     obtain ⟨hh, hhe⟩ := zz (acv abf QuT.name qs q); rw [hhe] at hat1; have hhq := qq (show ad0 QL zu[k].q = hh by rw [hq, ← hQLh.out, ← anm]; exact hhe); have hat1h := qq hat1; clear hSl hRd hen2 hx hq hat1 hhe; go_upto_region 10 with fail; have hAl := (qz wr.heap.size wr).alloc (qj _) (.cells #[.string q, .int .u64 id, .string key, .bool dur, .bool red, .string mid, .int .u8 uk, .int .u64 un, .string us, .slice uka uks.length ukc, .slice ula ul.length ulc, .string body] 64); have N0 := Blk.new wr [.string q, .int .u64 id, .string key, .bool dur, .bool red, .string mid, .int .u8 uk, .int .u64 un, .string us, .slice uka uks.length ukc, .slice ula ul.length ulc, .string body] 64; have A3 := A2.pure hAl; generalize wr.alloc (.cells #[.string q, .int .u64 id, .string key, .bool dur, .bool red, .string mid, .int .u8 uk, .int .u64 un, .string us, .slice uka uks.length ukc, .slice ula ul.length ulc, .string body] 64) = u5 at N0 A3 hAl ⊢; generalize wr.heap.size = nb at N0 ⊢; have n0 := N0.at 0 rfl; obtain ⟨a0, a1, a2, a3⟩ := A3.a4; clear c0 c1 c2 c3 c4 c5 c6 c7 c8 c9 c10 c11; cases hh
     ·have hz := qq (hbadb.out (by
       cases h : art QL (BrT.mk (xf, xg, xb) (.slice (some ⟨g2, off2, none⟩) zu.length pc) (.slice ta zy.length tc) zu zy).b with
       | false => rfl
       | true =>
        unfold art at h; simp only [jj, jt] at h; have := h.1.2 zu[k].p (jv.2 ⟨_, qy hkt, rfl⟩); have e : ad0 QL zu[k].p.q = false := hhq.out
        rw [e] at this; cases this))
      go_wp2_with (go_at_call 88; (with_reducible refine (hat1h.out _ hAl).mono ?_); rintro e w6 ⟨rfl, hB6⟩; have hF := hBr.trans ((hAl.trans (hB6.mono hAl.size)).mono hBr.size)); go_ret; exact ⟨by rw [hz.out]; rfl, hF⟩
     ·have hpg2 := qq (show ∀ p ∈ zu.take (k + 1), ad0 QL p.q = true from fun p hp => by
       rw [jx hkt] at hp; rcases List.mem_append.1 hp with hp | hp
       ·exact hpg.out p hp
       ·rw [jc.1 hp]; exact hhq.out)
      go_wp2_with (go_at_call 88; (with_reducible refine (hat1h.out _ hAl).mono ?_); rintro e w6 ⟨rfl, hB6⟩; have hF := hB.trans ((hAl.trans (hB6.mono hAl.size)).mono hB.size)); go_roundw
      case rel => exact ⟨k + 1, by omega, by go_num, hpg2, hF⟩
      case measure => simp [intOf]; omega
    ·obtain rfl : k = zu.length := by omega
     rw [js] at hpg; have M2 := M1.pure hB; have Q2 := Q1.pure hB; have hen := qq (hen.out.pure hB); have b4 := Q2.at 4 rfl; go_upto_region 14 with fail; clear hB hBt A1 Q1 M1; go_wp2; clear b4; obtain ⟨wp, hwp⟩ := zj wr; rw [← hwp] at M2 Q2 A2 hen hBr ⊢; clear hwp; go_loopw [47] (fun s47 wr => ∃ k cn : Nat, k ≤ zy.length ∧ s47 = .int .i64 k ∧ Hid (∀ r ∈ zy.take k, hasM QL r = true) ∧ Hid (aem (ace ((zk.take i).map BrT.b) ++ zy.take k) = true) ∧ Upd (fun b => b = mb) wp wr ∧ RefsM wr mb (aib (ace ((zk.take i).map BrT.b) ++ zy.take k)) cn ∧ cn ≤ 100 * i + k) (fun s47 _ => zy.length - (intOf s47).toNat)
     case atStart => exact ⟨0, cnt, Nat.zero_le _, rfl, qq (fun p hp => by simp at hp), qq (by rw [List.take_zero, List.append_nil]; exact hon.out), Upd.refl _ _, by rw [List.take_zero, List.append_nil]; exact M2, by omega⟩
     case round =>
      obtain ⟨k, cn, hk, rfl, htg, hon2, hU, M, hcn2⟩ := hrel; clear M2; have hmw : mb = w.heap.size + 1 := hmbh.out.symm; have hmwh := qq hmw; clear hmw; have A3 := A2.upd hU (fun e => by have e : w.heap.size = mb := e; have := hmwh.out; omega); have hBu := hBr.trans (hU.below hBr.size (fun b e => by have e : b = mb := e; have := hmwh.out; omega)); by_cases hkt : k < zy.length
      ·have hwft := hen.out.wf.t zy[k] (qy hkt)
       have hRs : Slc abc 2 wr (.slice ta zy.length tc) zy := by
        have h0 := (hbeh.out _ (qy hlt)).s.pure hBu; rw [hxh.out] at h0; exact h0
       obtain ⟨g3, off3, rfl⟩ := hRs.addrB hkt; obtain ⟨q, id, hx, c0, c1⟩ := ado hRs hkt; have hro := (hp100.out).2.2.2.2 zy[k] (qy hkt); have ht100 : zy.length ≤ 100 := (hp100.out).2.2.1
       have hokr : okR ⟨q, id⟩ := by
        rw [hx] at hwft hro; unfold Rf.okB at hro; rw [jj] at hro; exact ⟨jk (bbn hro.1) (by unfold maxLen; omega), hwft.1, hwft.2⟩
       have hma1 := fun (v : World) (h : Below w.heap.size w v) => hmah.out v h q id
       obtain ⟨mp, hmp⟩ := zz (aqg qs ⟨q, id⟩); obtain ⟨m1, m2, mh⟩ := mp; rw [hmp] at hma1; dsimp only at hma1; have hhm := qq (show hasM QL zy[k] = mh by rw [hx, ← hQLh.out, ← aqh hqsh.out, hmp]); obtain ⟨c, hcc⟩ : ∃ c : Nat, aa8 (ace ((zk.take i).map BrT.b) ++ zy.take k) ⟨q, id⟩ = c := ⟨_, rfl⟩
       have hcl : c ≤ 1 := by rw [← hcc]; exact amd hon2.out _
       have hma1h := qq hma1; have hcch := qq hcc; have hxh2 := qq hx; have hokh2 := qq hokr; have hkti : (k : Int) < (zy.length : Int) := by omega
       have hi6 : i ≤ 1000000 := by omega
       clear hRs hx hwft hro hmp hma1 hcc hokr; go_upto_region 17 with fail; have N1 := Blk.new wr [.string q, .int .u64 id] 68; have hAl := (qz wr.heap.size wr).alloc (qj _) (.cells #[.string q, .int .u64 id] 68); have hne : wr.heap.size ≠ mb := fun e => by have := M.lt; omega
       have M1 := M.pure hAl; generalize wr.heap.size = nb at N1 hne ⊢; generalize wr.alloc (.cells #[.string q, .int .u64 id] 68) = U at N1 hAl M1 ⊢; clear c0 c1 M; have hb := aul (fun k => k = mb) U; refine wp_region_held_drew (S := fun v => Upd (fun k => k = mb) U v) (by kernel_rfl) hb (fun zg => ?_); refine tkH 0 zg ?_; refine tkF 1 zg ?_ (fun v hSw => (N1.upd hSw hne).a2); obtain ⟨st, w1, hrun, M2, hg1, hst⟩ := (M1.drew).entry_run arr refs_law (by unfold maxLen; omega) hokh2.out; obtain ⟨w5, hrun2, M3, hg2⟩ := hst (IntKind.i64.wrap ((c : Int) + 1)); have hwr : IntKind.i64.wrap ((c : Int) + 1) = (c : Int) + 1 := by rw [IntKind.wrap_i64]; omega
       have hl1 := (M1.drew).look_run arr hokh2.out; have hl2 := M2.look_run arr hokh2.out; rw [qw rfl] at hl2; simp only [ail, hcch.out, Option.getD_some] at hrun hl1 hl2; unfold kvR evN at hrun hl1 hl2; unfold evN at hrun2; have hwrh := qq hwr; clear hwr; have hb1 : Upd (fun k => k = mb) U w1 := hb.trans (alq hg1) (fun _ h _ => h); have hb2 : Upd (fun k => k = mb) U w5 := hb.trans (alq hg2) (fun _ h _ => h); refine wpAnyH_ready (rs := [2, 4]) (by kernel_rfl) (by simp) ?_; refine AllReadyH.cons rfl (fun Kq hKq => ?_) (AllReadyH.cons rfl (fun Kq hKq => ?_) AllReadyH.nil)
       ·go_simp
        refine hKq.out _ _ hb (fun zg => ?_); clear hKq Kq; (try simp only [Act.put, lsT, lsZ, lsS]); refine tkH 3 zg ?_; refine aai 4 rfl (fun Kq hKq => ?_); go_simp; refine hKq.out _ _ hb1 (fun zg => ?_); clear hKq Kq; (try simp only [Act.put, lsT, lsZ, lsS]); refine tkH 5 zg ?_; exact ajw
       ·go_simp
        refine hKq.out _ _ hb1 (fun zg => ?_); clear hKq Kq; (try simp only [Act.put, lsT, lsZ, lsS]); refine tkH 5 zg ?_; refine aai 2 rfl (fun Kq hKq => ?_); go_simp; refine hKq.out _ _ hb1 (fun zg => ?_); clear hKq Kq; (try simp only [Act.put, lsT, lsZ, lsS]); refine tkH 3 zg ?_; exact ajw
      ·obtain rfl : k = zy.length := by omega
       rw [js] at htg hon2 M
       have hb1 := qq (show art QL zk[i].b = true by
        rw [hxh.out]; unfold art; rw [heok.out]; simp only [Bool.true_and, jj, jt]; refine ⟨fun p hp => ?_, fun r hr => htg.out r hr⟩; obtain ⟨t, ht, rfl⟩ := jv.1 hp
        exact hpg.out t ht)
       have hall2 := qq (show ∀ j, (h : j < zk.length) → j < i + 1 → art QL zk[j].b = true from fun j h hj => by
        rcases Nat.lt_or_ge j i with q | q
        ·exact hall.out j h q
        ·obtain rfl : j = i := by omega
         exact hb1.out)
       have hT2 := qq (show ace ((zk.take (i + 1)).map BrT.b) = ace ((zk.take i).map BrT.b) ++ zy by rw [anr hlt, hxh.out]); have hon3 := qq (show aem (ace ((zk.take (i + 1)).map BrT.b)) = true by rw [hT2.out]; exact hon2.out); have ht100 : zy.length ≤ 100 := (hp100.out).2.2.1; go_wp2; go_roundw
       case rel => exact ⟨i + 1, cn, by omega, by go_num, hall2, hon3, hBu, A3, by rw [hT2.out]; exact M, by omega⟩
       case measure => simp [intOf]; omega
  ·obtain rfl : i = zk.length := by omega
   rw [js] at hon; have hz := qq (az2 (qs := QL) (l := zk) (fun j h => hall.out j h h) hon.out); have a2 := A.at 2 rfl; go_wp2_with (go_at_call 115; (with_reducible refine (hrih.out _ hB).mono ?_); rintro e w2 ⟨rfl, hB2⟩; have hF := hB.trans (hB2.mono hB.size)); go_ret; exact ⟨by rw [hz.out]; rfl, hF⟩
structure StSm (t : StT) : Prop where
 q : t.qs.length ≤ 1000000
 m : ∀ q ∈ t.qs, q.zw.length ≤ 1000000
 b : t.zk.length ≤ 1000000
 h : t.hs.length ≤ 1000000
theorem StSm.ok {t : StT} (h : StSm t) {n : Int} (hq : qsB n (t.qs.map QuT.q) = true) : QsOk t.qs := ⟨awq hq, fun q hm => bd3 hq hm, h.q, h.m⟩
theorem bb2 {s : St} (h : s.okB = false) : s.chk = 140 := by unfold St.chk; rw [h]; rfl
theorem ajx (hCk : ayk) (w : World) (t : StT) (P : Nat → Prop) (hR : StRd P w t) (hT : Tb w) (hS : StSm t) :
 Calls prog 15 #[t.arg] w fun e w' => e = .returned (.int .i64 t.s.chk) ∧ Below w.heap.size w w' := by
 obtain ⟨nx, qa, qc, ba, bc, ha, hc, qs, zk, hs, rfl, -, -, -⟩ := hR.open
 rw [StT.arg_mk]
 have hB1 := (qz w.heap.size w).alloc (qj _) (.cells #[.int .u64 nx, .slice qa qs.length qc, .slice ba zk.length bc, .slice ha hs.length hc] 27)
 have A1 := Blk.new w [.int .u64 nx, .slice qa qs.length qc, .slice ba zk.length bc, .slice ha hs.length hc] 27
 have hque := fun (h : nx ≤ 1099511627777) (u : World) (hb : Below w.heap.size w u) => arn hCk u nx qa qc ba zk.length bc ha hs.length hc qs P (hR.qs.pure hb) (hT.pure hb) ⟨hS.q, hS.m⟩ h
 have hbra := fun (h : qsB nx (qs.map QuT.q) = true) (u : World) (hb : Below w.heap.size w u) => ans hCk u nx qa qc ba bc ha hc qs zk hs P (hR.qs.pure hb) (hR.b.pure hb) (fun x hx => (hR.e x hx).pure hb) (hT.pure hb) (hS.ok h) h hS.b
 have hri := fun (u : World) (h : Below w.heap.size w u) => bdl u (.slice ha hs.length hc) hs (hR.h.pure h) hS.h
 have hat := fun (h : RisK aav BrT.x zk) (u : World) (hb : Below w.heap.size w u) (yf : Int) (yg yb : ByteArray) => atB u nx qa qs.length qc ba zk.length bc ha hs.length hc zk yf yg yb (hR.b.pure hb) P (fun x hx => (hR.e x hx).pure hb) h hS.b
 have hok : (StT.mk nx (.slice qa qs.length qc) (.slice ba zk.length bc) (.slice ha hs.length hc) qs zk hs).s.okB = (decide (1 ≤ nx) && decide (nx ≤ 1099511627777) && qsB nx (qs.map QuT.q) && ane (qs.map QuT.q) (zk.map BrT.b) && hsB (zk.map BrT.b) hs) := rfl
 obtain ⟨S, hSe⟩ := zz ((StT.mk nx (.slice qa qs.length qc) (.slice ba zk.length bc) (.slice ha hs.length hc) qs zk hs).s)
 rw [hSe] at hok ⊢
 obtain ⟨b1, hb1⟩ := zz (qsB nx (qs.map QuT.q))
 obtain ⟨b2, hb2⟩ : ∃ b, ane (qs.map QuT.q) (zk.map BrT.b) = b := ⟨_, rfl⟩
 obtain ⟨b3, hb3⟩ := zz (aia aav He.x hs)
 have hrb := qq (fun (h : b2 = true) => bd4 (qs := qs.map QuT.q) (l := zk) (hb2.trans h))
 have hh3 := qq (show hsB (zk.map BrT.b) hs = (hs.all (fun h => Xn.okB h.x && !amu (zk.map BrT.b) h.x) && b3) by unfold hsB; rw [hb3])
 rw [hb1, hb2] at hok
 rw [hb1] at hque hbra
 rw [hb2] at hbra
 rw [hb3] at hri
 have hqueh := qq hque; have hbrah := qq hbra; have hrih := qq hri; have hath := qq hat; have hokh := qq hok
 have hhs := qq hR.h
 have hhl : (hs.length : Int) ≤ 1000000 := by have := hS.h; show (hs.length : Int) ≤ _; have h : hs.length ≤ 1000000 := hS.h; omega
 obtain ⟨a0, a1, a2, a3⟩ := A1.a4
 clear hque hbra hri hat hok hSe hb1 hb2 hb3 hR hS
 have hno := qq (fun (h : S.okB = false) => bb2 h)
 by_cases h1 : nx < 1
 ·have hz := qq (hno.out (by rw [hokh.out, qg (by omega)]; rfl))
  have hd : decide (nx < 1) = true := qp h1; go_enter func15, ntmps15; go_wp2; go_ret; exact ⟨by rw [hz.out]; rfl, hB1⟩
 have hd1 : decide (nx < 1) = false := qg h1
 by_cases h2 : 1099511627777 < nx
 ·have hz := qq (hno.out (by rw [hokh.out, qg (show ¬ nx ≤ 1099511627777 by omega)]; simp))
  have hd : decide (1099511627777 < nx) = true := qp h2; go_enter func15, ntmps15; go_wp2; go_ret; exact ⟨by rw [hz.out]; rfl, hB1⟩
 have hd2 : decide (1099511627777 < nx) = false := qg h2
 have hqueb := qq (hqueh.out (by omega))
 clear hqueh
 cases b1
 ·have hz := qq (hno.out (by rw [hokh.out]; simp))
  go_enter func15, ntmps15; go_wp2_with (go_at_call 47; (with_reducible refine (hqueb.out _ hB1).mono ?_); rintro e w2 ⟨rfl, hB2⟩; have hL2 := hB1.trans (hB2.mono hB1.size); have A2 := A1.pure hB2; (clear a0 a1 a2 a3); obtain ⟨a0, a1, a2, a3⟩ := A2.a4); go_ret; exact ⟨by rw [hz.out]; rfl, hL2⟩
 have hbrb := qq (hbrah.out rfl)
 clear hbrah
 cases b2
 ·have hz := qq (hno.out (by rw [hokh.out]; simp))
  go_enter func15, ntmps15; go_wp2_with (first | (go_at_call 47; (with_reducible refine (hqueb.out _ hB1).mono ?_); rintro e w2 ⟨rfl, hB2⟩; have hL2 := hB1.trans (hB2.mono hB1.size); have A2 := A1.pure hB2; (clear a0 a1 a2 a3); obtain ⟨a0, a1, a2, a3⟩ := A2.a4) | (go_at_call 48; (with_reducible refine (hbrb.out _ hL2).mono ?_); rintro e w3 ⟨rfl, hB3⟩; have hL3 := hL2.trans (hB3.mono hL2.size); have A3 := A2.pure hB3; (clear a0 a1 a2 a3); obtain ⟨a0, a1, a2, a3⟩ := A3.a4)); go_ret; exact ⟨by rw [hz.out]; rfl, hL3⟩
 have hatb := qq (hath.out (hrb.out rfl))
 clear hath
 cases b3
 ·have hz := qq (hno.out (by rw [hokh.out, hh3.out]; simp))
  go_enter func15, ntmps15; go_wp2_with (first | (go_at_call 47; (with_reducible refine (hqueb.out _ hB1).mono ?_); rintro e w2 ⟨rfl, hB2⟩; have hL2 := hB1.trans (hB2.mono hB1.size); have A2 := A1.pure hB2; (clear a0 a1 a2 a3); obtain ⟨a0, a1, a2, a3⟩ := A2.a4) | (go_at_call 48; (with_reducible refine (hbrb.out _ hL2).mono ?_); rintro e w3 ⟨rfl, hB3⟩; have hL3 := hL2.trans (hB3.mono hL2.size); have A3 := A2.pure hB3; (clear a0 a1 a2 a3); obtain ⟨a0, a1, a2, a3⟩ := A3.a4) | (go_at_call 49; (with_reducible refine (hrih.out _ hL3).mono ?_); rintro e w4 ⟨rfl, hB4⟩; have hL4 := hL3.trans (hB4.mono hL3.size); have A4 := A3.pure hB4; (clear a0 a1 a2 a3); obtain ⟨a0, a1, a2, a3⟩ := A4.a4)); go_ret; exact ⟨by rw [hz.out]; rfl, hL4⟩
 have hokk := qq (show S.okB = hs.all (fun h => Xn.okB h.x && !amu (zk.map BrT.b) h.x) by rw [hokh.out, hh3.out, qp (show 1 ≤ nx by omega), qp (show nx ≤ 1099511627777 by omega)]; simp)
 go_enter func15, ntmps15
 go_upto_region 4 with (first | (go_at_call 47; (with_reducible refine (hqueb.out _ hB1).mono ?_); rintro e w2 ⟨rfl, hB2⟩; have hL2 := hB1.trans (hB2.mono hB1.size); have A2 := A1.pure hB2; (clear a0 a1 a2 a3); obtain ⟨a0, a1, a2, a3⟩ := A2.a4) | (go_at_call 48; (with_reducible refine (hbrb.out _ hL2).mono ?_); rintro e w3 ⟨rfl, hB3⟩; have hL3 := hL2.trans (hB3.mono hL2.size); have A3 := A2.pure hB3; (clear a0 a1 a2 a3); obtain ⟨a0, a1, a2, a3⟩ := A3.a4) | (go_at_call 49; (with_reducible refine (hrih.out _ hL3).mono ?_); rintro e w4 ⟨rfl, hB4⟩; have hL4 := hL3.trans (hB4.mono hL3.size); have A4 := A3.pure hB4; (clear a0 a1 a2 a3); obtain ⟨a0, a1, a2, a3⟩ := A4.a4))
 clear h1 h2 hd1 hd2 a0 a1 a2 a3 A1 A2 A3 hB1 hB2 hB3 hB4 hL2 hL3 hqueb hbrb hrih hokh hh3 hrb
 go_loopw [34] (fun s34 wr => ∃ k : Nat, k ≤ hs.length ∧ s34 = .int .i64 k ∧ Hid (∀ j, (h : j < hs.length) → j < k → (Xn.okB hs[j].x && !amu (zk.map BrT.b) hs[j].x) = true) ∧ Below w.heap.size w wr ∧ Blk wr w.heap.size [.int .u64 nx, .slice qa qs.length qc, .slice ba zk.length bc, .slice ha hs.length hc]) (fun s34 _ => hs.length - (intOf s34).toNat)
 case atStart => exact ⟨0, Nat.zero_le _, rfl, qq (fun j h h' => jp h' (by omega)), hL4, A4⟩
 case round =>
  obtain ⟨k, hk, rfl, hall, hB, A⟩ := hrel; clear hL4 A4; by_cases hkt : k < hs.length
  ·have hkti : (k : Int) < (hs.length : Int) := by omega
   have hSl := hhs.out.pure hB; obtain ⟨g, off, rfl⟩ := hSl.addrB hkt; obtain ⟨xf, xg, xb, hcm, hx, c0, c1, c2, c3⟩ := agb hSl hkt; have hat1 := fun (u : World) (h : Below w.heap.size w u) => hatb.out u h xf xg xb
   obtain ⟨ih, hih⟩ := zz (acv aav BrT.x zk (xf, xg, xb)); rw [hih] at hat1; have hxc := fun (u : World) => ayj u xf xg xb
   obtain ⟨xo, hxo⟩ := zz (Xn.okB (xf, xg, xb)); rw [hxo] at hxc; have hgo := qq (show (Xn.okB hs[k].x && !amu (zk.map BrT.b) hs[k].x) = (xo && !ih) by rw [hx, ← bbt, hih, hxo])
   have hbad := qq (fun (h : (xo && !ih) = false) => show S.chk = 140 from hno.out (by
    rw [hokk.out, List.all_eq_false]
    exact ⟨hs[k], qy hkt, by rw [hgo.out, h]; simp⟩))
   have hat1h := qq hat1; have hxch := qq hxc; clear hSl hx hat1 hxc hih hxo; go_upto_region 6 with fail; have N := Blk.new wr [.int .u32 xf, .string xg, .string xb, .bool hcm] 90; have hAl := (qz wr.heap.size wr).alloc (qj _) (.cells #[.int .u32 xf, .string xg, .string xb, .bool hcm] 90); have hBu := hB.trans (hAl.mono hB.size); have Au := A.pure hAl; generalize wr.heap.size = nb at N ⊢; generalize wr.alloc (.cells #[.int .u32 xf, .string xg, .string xb, .bool hcm] 90) = u at N hBu Au ⊢; clear c0 c1 c2 c3 hAl hB A; obtain ⟨n0, n1, n2⟩ := N.a3; obtain ⟨a0, a1, a2, a3⟩ := Au.a4; cases ih
   rotate_left 1
   ·have hz := qq (hbad.out (by simp))
    go_wp2_with (go_at_call 52; (with_reducible refine (hat1h.out _ hBu).mono ?_); rintro e w5 ⟨rfl, hB5⟩; have hF := hBu.trans (hB5.mono hBu.size)); go_ret; exact ⟨by rw [hz.out]; rfl, hF⟩
   cases xo
   ·have hz := qq (hbad.out (by simp))
    simp only [Bool.false_eq_true, if_false] at hxch; go_wp2_with (first | (go_at_call 52; (with_reducible refine (hat1h.out _ hBu).mono ?_); rintro e w5 ⟨rfl, hB5⟩; have hF5 := hBu.trans (hB5.mono hBu.size); have N5 := N.pure hB5; (clear n0 n1 n2); obtain ⟨n0, n1, n2⟩ := N5.a3) | (go_at_call 53; (with_reducible refine (hxch.out _).mono ?_); rintro e w6 ⟨rfl, hB6⟩; have hF := hF5.trans (hB6.mono hF5.size))); go_ret; exact ⟨by rw [hz.out]; rfl, hF⟩
   ·simp only [if_true] at hxch
    have hall2 := qq (show ∀ j, (h : j < hs.length) → j < k + 1 → (Xn.okB hs[j].x && !amu (zk.map BrT.b) hs[j].x) = true from fun j h hj => by
     rcases Nat.lt_or_ge j k with q | q
     ·exact hall.out j h q
     ·obtain rfl : j = k := by omega
      rw [hgo.out]; rfl)
    go_wp2_with (first | (go_at_call 52; (with_reducible refine (hat1h.out _ hBu).mono ?_); rintro e w5 ⟨rfl, hB5⟩; have hF5 := hBu.trans (hB5.mono hBu.size); have N5 := N.pure hB5; (clear n0 n1 n2); obtain ⟨n0, n1, n2⟩ := N5.a3) | (go_at_call 53; (with_reducible refine (hxch.out _).mono ?_); rintro e w6 ⟨rfl, hB6⟩; have hF := hF5.trans (hB6.mono hF5.size))); have A6 := (Au.pure hB5).pure hB6; go_roundw
    case rel => exact ⟨k + 1, by omega, by go_num, hall2, hF, A6⟩
    case measure => simp [intOf]; omega
  ·obtain rfl : k = hs.length := by omega
   have hz := qq (show S.chk = 0 from awg.2 (by
    rw [hokk.out, jt]; intro h hh; obtain ⟨j, hj, rfl⟩ := List.getElem_of_mem hh
    exact hall.out j hj hj))
   go_wp2; go_ret; exact ⟨by rw [hz.out]; rfl, hB⟩
open Go.RowKit Tryz
def aam (w : World) (g o : Nat) : List Value → World
 | [] => w
 | v :: vs => aam (w.setCell ⟨g, o, none⟩ v) g (o + 1) vs
def setL (l : List Value) (o : Nat) : List Value → List Value
 | [] => l
 | v :: vs => setL (l.set o v) (o + 1) vs
theorem ab6 (g : Nat) : ∀ (vs : List Value) (o : Nat) (w : World), Upd (fun b => b = g) w (aam w g o vs)
 | [], o, w => Upd.refl _ _
 | v :: vs, o, w => (aba (S := fun b => b = g) (Upd.refl (fun b => b = g) w) g o v rfl).trans (ab6 g vs (o + 1) _) (fun _ h _ => h)
theorem Own.as {α β : Type} {base m : Nat} {e : TypeId} {enc : α → List Value} {enc' : β → List Value} {w : World} {v : Value} {L : List α} {L' : List β} (h : Own base e m enc w v L) (hl : L'.length = L.length) (hf : L'.flatMap enc' = L.flatMap enc) : Own base e m enc' w v L' := by
 unfold Own at *; rw [hl, hf]; exact h
theorem Own.sets {α : Type} {base m : Nat} {e : TypeId} {enc : α → List Value} (hm : ∀ x, (enc x).length = m) {w : World} {g n cap : Nat} {L : List α} (h : Own base e m enc w (.slice (some ⟨g, 0, none⟩) n cap) L) (k : Nat) (hk : k < L.length) (j : Nat) (vs : List Value) (hj : j + vs.length ≤ m) (x' : α) (hx : enc x' = setL (enc L[k]) j vs) :
 Own base e m enc (aam w g (k * m + j) vs) (.slice (some ⟨g, 0, none⟩) n cap) (L.set k x') := by
 let R := { l : List Value // l.length = m }
 have hmR : ∀ x : R, x.val.length = m := fun x => x.property
 have key : ∀ (vs : List Value) (j : Nat) (w : World) (M : List R) (hk : k < M.length), j + vs.length ≤ m → Own base e m Subtype.val w (.slice (some ⟨g, 0, none⟩) n cap) M → ∃ y : R, y.val = setL (M[k]).val j vs ∧ Own base e m Subtype.val (aam w g (k * m + j) vs) (.slice (some ⟨g, 0, none⟩) n cap) (M.set k y) := by
  intro vs
  induction vs with
  | nil => intro j w M hk _ hO; exact ⟨M[k], rfl, by rw [List.set_getElem_self]; exact hO⟩
  | cons v vs ih =>
   intro j w M hk hj hO; simp only [jn] at hj; have h1 := hO.set hmR k hk j v ⟨(M[k]).val.set j v, by rw [List.length_set]; exact (M[k]).property⟩ (by omega) rfl; have hk2 : k < (M.set k ⟨(M[k]).val.set j v, by rw [List.length_set]; exact (M[k]).property⟩).length := by rw [List.length_set]; exact hk
   obtain ⟨y, hy, hO2⟩ := ih (j + 1) _ _ hk2 (by omega) h1; refine ⟨y, ?_, ?_⟩
   ·rw [hy, List.getElem_set_self]; rfl
   ·rw [List.set_set] at hO2; exact hO2
 have hM : Own base e m Subtype.val w (.slice (some ⟨g, 0, none⟩) n cap) (L.map (fun x => (⟨enc x, hm x⟩ : R))) := h.as (by simp) (by rw [List.flatMap_map])
 obtain ⟨y, hy, hO⟩ := key vs j w _ (by simpa using hk) hj hM
 refine hO.as (by simp) ?_
 have e : (L.map (fun x => (⟨enc x, hm x⟩ : R))).set k y = (L.set k x').map (fun x => (⟨enc x, hm x⟩ : R)) := by
  rw [List.map_set]; congr 1; apply Subtype.ext; rw [hy, zq]; exact hx.symm
 rw [e, List.flatMap_map]
structure OwL {α : Type} (e : TypeId) (m : Nat) (enc : α → List Value) (app : α → VT) (B : Nat) (w : World) (v : Value) (L : List α) : Prop where
 o : Own B e m enc w v L
 r : ∀ x ∈ L, Rd (fun i => B ≤ i ∧ v.ownBlock ≠ some i) w (app x)
theorem OwL.pure {α : Type} {e : TypeId} {m : Nat} {enc : α → List Value} {app : α → VT} {B : Nat} {w w' : World} {v : Value} {L : List α} (h : OwL e m enc app B w v L) (hB : Below w.heap.size w w') : OwL e m enc app B w' v L := ⟨h.o.pure hB, fun x hx => (h.r x hx).pure hB⟩
theorem OwL.base {α : Type} {e : TypeId} {m : Nat} {enc : α → List Value} {app : α → VT} {B C : Nat} {w : World} {v : Value} {L : List α} (h : OwL e m enc app B w v L) (hC : C ≤ B) : OwL e m enc app C w v L := ⟨h.o.rebase (fun k hk => jk hC (h.o.ge hk)), fun x hx => (h.r x hx).weaken (fun i _ hi => ⟨jk hC hi.1, hi.2⟩)⟩
theorem adk {α β : Type} {f : α → β} {L : List α} {k : Nat} (hk : k < L.length) {x : α} (h : f x = f L[k]) : (L.set k x).map f = L.map f := by
 rw [List.map_set, h]
 apply List.ext_getElem (by simp)
 intro i h1 h2
 rw [List.getElem_set]
 split
 ·rename_i e; subst e; simp
 ·rfl
theorem ajy {P : Prop} (h : P := by
 rw [List.set_append_right _ _ (by rw [hDlh.out]; exact qj _), hDlh.out, Nat.sub_self, List.drop_eq_getElem_cons hkt, List.set_cons_zero, List.append_assoc]; rfl) : P := h
theorem ajz (w : World) (v : Value) (l : List PtT) (P : Nat → Prop) (hS : Slc aat 12 w v l) (hr : ∀ x ∈ l, Rd P w x.pr.app) (hP : ∀ i, P i → i < w.heap.size) (h0 : ∀ x ∈ l, x.p.pr.smallB = true) (hT : Tb w) (hL : l.length ≤ 1000000) :
 Calls prog 86 #[v] w fun e w' => ∃ (v' : Value) (L : List PtT), e = .returned v' ∧ L.map PtT.p = l.map PtT.p ∧ OwL 64 12 aat (fun x => x.pr.app) w.heap.size w' v' L ∧ Below w.heap.size w w' := by
 have hcl := auk w v l hS hL (fun x hx => azy (hr x hx))
 obtain ⟨va, vc, rfl, -⟩ := hS.len
 have hclh := qq hcl; have hrh := qq hr; have h0h := qq h0
 have hli : (l.length : Int) ≤ 1000000 := by omega
 clear hcl hS hr h0
 go_enter func86, ntmps86
 go_upto_region 2 with (go_at_call 136; (with_reducible refine hclh.out.mono ?_); rintro e w2 ⟨r, rfl, hO, hB⟩)
 obtain ⟨ra, rn, rc, rfl⟩ := hO.shape3
 obtain rfl : rn = l.length := by obtain ⟨_, _, e, _⟩ := (hO.slc aae).len; injection e
 have hO0 := qq hO
 have hBh := qq hB
 clear hclh hO hB
 go_wp2
 go_loopw [9] (fun s9 wr => ∃ (k : Nat) (D : List PtT), k ≤ l.length ∧ s9 = .int .i64 k ∧ D.length = k ∧ Hid (D.map PtT.p = (l.take k).map PtT.p) ∧ Own w.heap.size 64 12 aat wr (.slice ra l.length rc) (D ++ l.drop k) ∧ Hid (∀ x ∈ D, Rd (fun i => w.heap.size ≤ i ∧ Value.ownBlock (.slice ra l.length rc) ≠ some i) wr x.pr.app) ∧ Below w.heap.size w wr ∧ w2.heap.size ≤ wr.heap.size) (fun s9 _ => l.length - (intOf s9).toNat)
 case atStart => exact ⟨0, [], Nat.zero_le _, rfl, rfl, qq (by simp), by simpa using hO0.out, qq (fun x hx => by cases hx), hBh.out, qj _⟩
 case round =>
  obtain ⟨k, D, hk, rfl, hDl, hDm, O, hRd, hB, hws⟩ := hrel; have hDlh := qq hDl; clear hDl; by_cases hkt : k < l.length
  ·have hkti : (k : Int) < (l.length : Int) := by omega
   have hi : k < (D ++ l.drop k).length := by rw [jz, List.length_drop, hDlh.out]; omega
   have hgk : (D ++ l.drop k)[k] = l[k] := by
    rw [List.getElem_append_right (by rw [hDlh.out]; exact qj _)]; simp [hDlh.out]
   obtain ⟨g, rfl, hg⟩ := abr O hi; have hgl : g < wr.heap.size := O.lt rfl; have hre := (hrh.out l[k] (qy hkt)).lt.pure hB; have hsm := h0h.out l[k] (qy hkt); rcases hx : l[k] with ⟨q, id, ⟨key, dur, red, mid, tv⟩, body⟩; rw [hx] at hre hsm hgk; have hre : Rd _ _ tv := hre; obtain ⟨uk, un, us, uka, ukc, ula, ulc, uks, ul, rfl, -⟩ := hre.open; have hown := fun (u : World) (h : Below wr.heap.size wr u) => afa (PT.mk key dur red mid (VT.mk uk un us (.slice uka uks.length ukc) (.slice ula ul.length ulc) uks ul)) _ u (hre.pure h) hsm ((hT.pure hB).pure h)
   obtain ⟨X, hX⟩ := zz ((PT.mk key dur red mid (VT.mk uk un us (.slice uka uks.length ukc) (.slice ula ul.length ulc) uks ul)).p); rw [PT.arg_mk, hX] at hown; have hownh := qq hown; have hXh := qq hX; have hxh := qq hx; have hgkh := qq hgk; have Oh := qq O; have c2 : wr.cell? ⟨g, k * 12 + 2, none⟩ = some (.string key) := Oh.out.cell aae k hi 2 _ (by rw [hgkh.out]; rfl); have c3 : wr.cell? ⟨g, k * 12 + 3, none⟩ = some (.bool dur) := Oh.out.cell aae k hi 3 _ (by rw [hgkh.out]; rfl); have c4 : wr.cell? ⟨g, k * 12 + 4, none⟩ = some (.bool red) := Oh.out.cell aae k hi 4 _ (by rw [hgkh.out]; rfl); have c5 : wr.cell? ⟨g, k * 12 + 5, none⟩ = some (.string mid) := Oh.out.cell aae k hi 5 _ (by rw [hgkh.out]; rfl); have c6 : wr.cell? ⟨g, k * 12 + 6, none⟩ = some (.int .u8 uk) := Oh.out.cell aae k hi 6 _ (by rw [hgkh.out]; rfl); have c7 : wr.cell? ⟨g, k * 12 + 7, none⟩ = some (.int .u64 un) := Oh.out.cell aae k hi 7 _ (by rw [hgkh.out]; rfl); have c8 : wr.cell? ⟨g, k * 12 + 8, none⟩ = some (.string us) := Oh.out.cell aae k hi 8 _ (by rw [hgkh.out]; rfl); have c9 : wr.cell? ⟨g, k * 12 + 9, none⟩ = some (.slice uka uks.length ukc) := Oh.out.cell aae k hi 9 _ (by rw [hgkh.out]; rfl); have c10 : wr.cell? ⟨g, k * 12 + 10, none⟩ = some (.slice ula ul.length ulc) := Oh.out.cell aae k hi 10 _ (by rw [hgkh.out]; rfl); clear hown hX hx hgk hre hsm O; have f2 := Oh.out.frozen (k * 12 + 2); have f3 := Oh.out.frozen (k * 12 + 3); have f4 := Oh.out.frozen (k * 12 + 4); have f5 := Oh.out.frozen (k * 12 + 5); have f6 := Oh.out.frozen (k * 12 + 6); have f7 := Oh.out.frozen (k * 12 + 7); have f8 := Oh.out.frozen (k * 12 + 8); have f9 := Oh.out.frozen (k * 12 + 9); have f10 := Oh.out.frozen (k * 12 + 10); go_wp2_with (go_at_call 85; (with_reducible refine (hownh.out _ (qz _ _)).mono ?_); rintro e w3 ⟨⟨key2, dur2, red2, mid2, tv2⟩, rfl, ht2, hR3, hB3⟩; have hR3 : Rd _ _ tv2 := hR3; obtain ⟨uk2, un2, us2, uka2, ukc2, ula2, ulc2, uks2, ul2, rfl, -⟩ := hR3.open; rw [PT.arg_mk]; have ht2 := qq ht2; have O3 := Oh.out.pure hB3; have g2 := O3.frozen (k * 12 + 2); have g3 := O3.frozen (k * 12 + 3); have g4 := O3.frozen (k * 12 + 4); have g5 := O3.frozen (k * 12 + 5); have g6 := O3.frozen (k * 12 + 6); have g7 := O3.frozen (k * 12 + 7); have g8 := O3.frozen (k * 12 + 8); have g9 := O3.frozen (k * 12 + 9); have g10 := O3.frozen (k * 12 + 10); have d2 := O3.cell aae k hi 2 _ (by rw [hgkh.out]; rfl); have d3 := O3.cell aae k hi 3 _ (by rw [hgkh.out]; rfl); have d4 := O3.cell aae k hi 4 _ (by rw [hgkh.out]; rfl); have d5 := O3.cell aae k hi 5 _ (by rw [hgkh.out]; rfl); have d6 := O3.cell aae k hi 6 _ (by rw [hgkh.out]; rfl); have d7 := O3.cell aae k hi 7 _ (by rw [hgkh.out]; rfl); have d8 := O3.cell aae k hi 8 _ (by rw [hgkh.out]; rfl); have d9 := O3.cell aae k hi 9 _ (by rw [hgkh.out]; rfl); have d10 := O3.cell aae k hi 10 _ (by rw [hgkh.out]; rfl)); have hset := O3.sets aae k hi 2 [.string key2, .bool dur2, .bool red2, .string mid2, .int .u8 uk2, .int .u64 un2, .string us2, .slice uka2 uks2.length ukc2, .slice ula2 ul2.length ulc2] (by simp) (PtT.mk q id (PT.mk key2 dur2 red2 mid2 (VT.mk uk2 un2 us2 (.slice uka2 uks2.length ukc2) (.slice ula2 ul2.length ulc2) uks2 ul2)) body) (by rw [hgkh.out]; rfl)
   have hsw : (D ++ l.drop k).set k (PtT.mk q id (PT.mk key2 dur2 red2 mid2 (VT.mk uk2 un2 us2 (.slice uka2 uks2.length ukc2) (.slice ula2 ul2.length ulc2) uks2 ul2)) body) = (D ++ [(PtT.mk q id (PT.mk key2 dur2 red2 mid2 (VT.mk uk2 un2 us2 (.slice uka2 uks2.length ukc2) (.slice ula2 ul2.length ulc2) uks2 ul2)) body)]) ++ l.drop (k + 1) := by
    exact ajy
   rw [hsw] at hset; have hU := ab6 g [.string key2, .bool dur2, .bool red2, .string mid2, .int .u8 uk2, .int .u64 un2, .string us2, .slice uka2 uks2.length ukc2, .slice ula2 ul2.length ulc2] (k * 12 + 2) w3; have hB4 := (hB.trans (hB3.mono hB.size)).trans (hU.below (jk hB.size hB3.size) (fun b e => by have e : b = g := e; omega)); have hws4 := jk (jk hws hB3.size) hU.size
   have hRd4 := qq (show ∀ x ∈ D ++ [(PtT.mk q id (PT.mk key2 dur2 red2 mid2 (VT.mk uk2 un2 us2 (.slice uka2 uks2.length ukc2) (.slice ula2 ul2.length ulc2) uks2 ul2)) body)], Rd (fun i => w.heap.size ≤ i ∧ Value.ownBlock (.slice (some ⟨g, 0, none⟩) l.length rc) ≠ some i) (aam w3 g (k * 12 + 2) [.string key2, .bool dur2, .bool red2, .string mid2, .int .u8 uk2, .int .u64 un2, .string us2, .slice uka2 uks2.length ukc2, .slice ula2 ul2.length ulc2]) x.pr.app from fun x hx => by
    rcases List.mem_append.1 hx with hx | hx
    ·exact ((hRd.out x hx).pure hB3).upd hU (fun i hi e => hi.2 (by rw [show i = g from e]; rfl))
    ·rw [jc.1 hx]
     exact (hR3.upd hU (fun i hi e => by have e : i = g := e; omega)).weaken (fun i _ hi => ⟨jk hB.size hi, fun e => jp (show g = i by simpa [Value.ownBlock] using e) (by omega)⟩))
   have hDm4 := qq (show (D ++ [(PtT.mk q id (PT.mk key2 dur2 red2 mid2 (VT.mk uk2 un2 us2 (.slice uka2 uks2.length ukc2) (.slice ula2 ul2.length ulc2) uks2 ul2)) body)]).map PtT.p = (l.take (k + 1)).map PtT.p by
    rw [List.map_append, hDm.out, jx hkt, List.map_append]; congr 1; rw [List.map_singleton, List.map_singleton, hxh.out]; unfold PtT.p; dsimp only
    rw [ht2.out, ← hXh.out])
   unfold aam aam aam aam aam aam aam aam aam aam at hset hRd4 hB4 hws4; go_roundw
   case rel => exact ⟨k + 1, D ++ [(PtT.mk q id (PT.mk key2 dur2 red2 mid2 (VT.mk uk2 un2 us2 (.slice uka2 uks2.length ukc2) (.slice ula2 ul2.length ulc2) uks2 ul2)) body)], by omega, by go_num, by rw [jz, hDlh.out]; rfl, hDm4, hset, hRd4, hB4, hws4⟩
   case measure => simp [intOf]; omega
  ·obtain rfl : k = l.length := by omega
   rw [List.drop_length, List.append_nil] at O; rw [js] at hDm; go_wp2; go_ret; have hDd := hDlh.out; exact ⟨_, D, rfl, hDm.out, ⟨O, hRd.out⟩, hB⟩
structure OwI {α : Type} (e : TypeId) (m : Nat) (enc : α → List Value) (app : α → VT) (w : World) (lo hi : Nat) (v : Value) (L : List α) : Prop where
 o : Own lo e m enc w v L
 k : ∀ k, v.ownBlock = some k → k < hi
 le : lo ≤ hi
 r : ∀ x ∈ L, Rd (fun i => lo ≤ i ∧ i < hi ∧ v.ownBlock ≠ some i) w (app x)
abbrev MsI := OwI (α := MsT) 60 11 abl (fun m => m.pr.app)
abbrev PtI := OwI (α := PtT) 64 12 aat (fun m => m.pr.app)
theorem OwI.upd {α : Type} {e : TypeId} {m : Nat} {enc : α → List Value} {app : α → VT} {w w' : World} {lo hi : Nat} {v : Value} {L : List α} {S : Nat → Prop} (h : OwI e m enc app w lo hi v L) (hu : Upd S w w') (hS : ∀ i, lo ≤ i → i < hi → ¬ S i) : OwI e m enc app w' lo hi v L :=
 ⟨h.o.upd hu (fun i hi' => hS i (h.o.ge hi') (h.k i hi')), h.k, h.le, fun x hx => (h.r x hx).upd hu (fun i hi' => hS i hi'.1 hi'.2.1)⟩
def SegQ (w : World) : Nat → List QuT → Nat → Prop
 | lo, [], hi => lo ≤ hi
 | lo, q :: l, hi => ∃ mid, MsI w lo mid q.mv q.zw ∧ SegQ w mid l hi
def SegB (w : World) : Nat → List BrT → Nat → Prop
 | lo, [], hi => lo ≤ hi
 | lo, b :: l, hi => ∃ mid, PtI w lo mid b.pv b.zu ∧ Own lo 68 2 abc w b.tv b.zy ∧ (∀ k, b.tv.ownBlock = some k → k < mid) ∧ SegB w mid l hi
theorem SegQ.le {w : World} : ∀ {l : List QuT} {lo hi : Nat}, SegQ w lo l hi → lo ≤ hi
 | [], _, _, h => h
 | q :: l, lo, hi, ⟨mid, h, k⟩ => jk h.le (SegQ.le k)
theorem SegB.le {w : World} : ∀ {l : List BrT} {lo hi : Nat}, SegB w lo l hi → lo ≤ hi
 | [], _, _, h => h
 | q :: l, lo, hi, ⟨mid, h, _, _, k⟩ => jk h.le (SegB.le k)
theorem SegQ.upd {S : Nat → Prop} {w w' : World} (hu : Upd S w w') : ∀ {l : List QuT} {lo hi : Nat}, SegQ w lo l hi → (∀ i, lo ≤ i → i < hi → ¬ S i) → SegQ w' lo l hi
 | [], _, _, h, _ => h
 | q :: l, lo, hi, ⟨mid, h, k⟩, hS => ⟨mid, h.upd hu (fun i h1 h2 => hS i h1 (jg h2 k.le)), SegQ.upd hu k (fun i h1 h2 => hS i (jk h.le h1) h2)⟩
theorem SegB.upd {S : Nat → Prop} {w w' : World} (hu : Upd S w w') : ∀ {l : List BrT} {lo hi : Nat}, SegB w lo l hi → (∀ i, lo ≤ i → i < hi → ¬ S i) → SegB w' lo l hi
 | [], _, _, h, _ => h
 | q :: l, lo, hi, ⟨mid, h, t, tk, k⟩, hS => ⟨mid, h.upd hu (fun i h1 h2 => hS i h1 (jg h2 k.le)), t.upd hu (fun i hi' => hS i (t.ge hi') (jg (tk i hi') k.le)), tk, SegB.upd hu k (fun i h1 h2 => hS i (jk h.le h1) h2)⟩
theorem SegQ.snoc {w : World} {q : QuT} {mid hi : Nat} : ∀ {l : List QuT} {lo : Nat}, SegQ w lo l mid → MsI w mid hi q.mv q.zw → SegQ w lo (l ++ [q]) hi
 | [], lo, h, k => ⟨hi, ⟨k.o.rebase (fun i e => jk h (k.o.ge e)), k.k, jk h k.le, fun x hx => (k.r x hx).weaken (fun i _ hi => ⟨jk h hi.1, hi.2⟩)⟩, qj _⟩
 | p :: l, lo, ⟨m, h1, h2⟩, k => ⟨m, h1, SegQ.snoc h2 k⟩
theorem SegB.snoc {w : World} {q : BrT} {mid hi : Nat} : ∀ {l : List BrT} {lo : Nat}, SegB w lo l mid → PtI w mid hi q.pv q.zu → Own mid 68 2 abc w q.tv q.zy → (∀ k, q.tv.ownBlock = some k → k < hi) → SegB w lo (l ++ [q]) hi
 | [], lo, h, k, t, tk => ⟨hi, ⟨k.o.rebase (fun i e => jk h (k.o.ge e)), k.k, jk h k.le, fun x hx => (k.r x hx).weaken (fun i _ hi => ⟨jk h hi.1, hi.2⟩)⟩, t.rebase (fun i e => jk h (t.ge e)), tk, qj _⟩
 | p :: l, lo, ⟨m, h1, h2, h3, h4⟩, k, t, tk => ⟨m, h1, h2, h3, SegB.snoc h4 k t tk⟩
theorem SegQ.ext {w : World} : ∀ {l : List QuT} {lo hi hi' : Nat}, SegQ w lo l hi → hi ≤ hi' → SegQ w lo l hi'
 | [], lo, hi, hi', h, k => jk h k
 | p :: l, lo, hi, hi', ⟨m, h1, h2⟩, k => ⟨m, h1, SegQ.ext h2 k⟩
theorem SegB.ext {w : World} : ∀ {l : List BrT} {lo hi hi' : Nat}, SegB w lo l hi → hi ≤ hi' → SegB w lo l hi'
 | [], lo, hi, hi', h, k => jk h k
 | p :: l, lo, hi, hi', ⟨m, h1, h2, h3, h4⟩, k => ⟨m, h1, h2, h3, SegB.ext h4 k⟩
structure StWf (t : StT) : Prop where
 n : 0 ≤ t.next ∧ t.next < 18446744073709551616
 ql : ∀ q ∈ t.qs, 0 ≤ q.limit ∧ q.limit < 18446744073709551616
 mi : ∀ q ∈ t.qs, ∀ m ∈ q.zw, 0 ≤ m.id ∧ m.id < 18446744073709551616
 bx : ∀ b ∈ t.zk, 0 ≤ b.x.1 ∧ b.x.1 < 4294967296
 pi : ∀ b ∈ t.zk, ∀ p ∈ b.zu, 0 ≤ p.id ∧ p.id < 18446744073709551616
 ti : ∀ b ∈ t.zk, ∀ r ∈ b.zy, 0 ≤ r.id ∧ r.id < 18446744073709551616
 hx : ∀ h ∈ t.hs, 0 ≤ h.x.1 ∧ h.x.1 < 4294967296
def Mut (vs : List Value) (i : Nat) : Prop := ∃ v ∈ vs, v.ownBlock = some i
theorem abd {a b : List Value} {i : Nat} : Mut (a ++ b) i ↔ Mut a i ∨ Mut b i := by
 unfold Mut
 constructor
 ·rintro ⟨v, hv, e⟩
  rcases List.mem_append.1 hv with h | h
  ·exact .inl ⟨v, h, e⟩
  ·exact .inr ⟨v, h, e⟩
 ·rintro (⟨v, h, e⟩ | ⟨v, h, e⟩)
  ·exact ⟨v, List.mem_append_left _ h, e⟩
  ·exact ⟨v, List.mem_append_right _ h, e⟩
theorem aab {v : Value} {b : List Value} {i : Nat} : Mut (v :: b) i ↔ v.ownBlock = some i ∨ Mut b i := by
 unfold Mut
 constructor
 ·rintro ⟨u, hv, e⟩
  rcases List.mem_cons.1 hv with rfl | h
  ·exact .inl e
  ·exact .inr ⟨u, h, e⟩
 ·rintro (e | ⟨u, h, e⟩)
  ·exact ⟨v, List.mem_cons_self .., e⟩
  ·exact ⟨u, List.mem_cons_of_mem _ h, e⟩
def StT.mv (t : StT) : List Value := t.qv :: t.bv :: t.hv :: (t.qs.map QuT.mv ++ t.zk.map BrT.pv)
structure StOw (B : Nat) (w : World) (t : StT) : Prop where
 q : Own B 51 3 aar w t.qv t.qs
 b : Own B 62 5 aa7 w t.bv t.zk
 h : Own B 90 4 adp w t.hv t.hs
 m : ∀ q ∈ t.qs, Own B 60 11 abl w q.mv q.zw
 p : ∀ b ∈ t.zk, Own B 64 12 aat w b.pv b.zu
 tk : ∀ b ∈ t.zk, Own B 68 2 abc w b.tv b.zy
 md : t.qs.Pairwise (fun a b => ∀ i, a.mv.ownBlock = some i → b.mv.ownBlock ≠ some i)
 pd : t.zk.Pairwise (fun a b => ∀ i, a.pv.ownBlock = some i → b.pv.ownBlock ≠ some i)
 ra : ∀ q ∈ t.qs, ∀ m ∈ q.zw, Rd (fun i => B ≤ i ∧ ¬ Mut t.mv i) w m.pr.app
 rb : ∀ b ∈ t.zk, ∀ p ∈ b.zu, Rd (fun i => B ≤ i ∧ ¬ Mut t.mv i) w p.pr.app
 wf : StWf t
theorem SegQ.all {w : World} : ∀ {l : List QuT} {lo hi : Nat}, SegQ w lo l hi → (∀ q ∈ l, Own lo 60 11 abl w q.mv q.zw ∧ ∀ k, q.mv.ownBlock = some k → k < hi) ∧ l.Pairwise (fun a b => ∀ i, a.mv.ownBlock = some i → b.mv.ownBlock ≠ some i) ∧ ∀ q ∈ l, ∀ m ∈ q.zw, Rd (fun i => lo ≤ i ∧ i < hi ∧ ¬ Mut (l.map QuT.mv) i) w m.pr.app
 | [], lo, hi, _ => ⟨fun q hq => (by cases hq), List.Pairwise.nil, fun q hq => (by cases hq)⟩
 | q :: l, lo, hi, ⟨mid, h, k⟩ => by
  obtain ⟨a, b, c⟩ := SegQ.all k; have hk := k.le; refine ⟨fun x hx => ?_, List.pairwise_cons.2 ⟨fun x hx i e1 e2 => ?_, b⟩, fun x hx m hm => ?_⟩
  ·rcases List.mem_cons.1 hx with rfl | hx
   ·exact ⟨h.o, fun i e => jg (h.k i e) hk⟩
   ·exact ⟨(a x hx).1.rebase (fun i e => jk h.le ((a x hx).1.ge e)), (a x hx).2⟩
  ·have h1 := h.k i e1
   have h2 := (a x hx).1.ge e2; omega
  ·rcases List.mem_cons.1 hx with rfl | hx
   ·refine (h.r m hm).weaken (fun i _ hi => ⟨hi.1, jg hi.2.1 hk, fun hm => ?_⟩)
    rcases aab.1 hm with e | ⟨v, hv, e⟩
    ·exact hi.2.2 e
    ·obtain ⟨y, hy, rfl⟩ := jv.1 hv
     have := (a y hy).1.ge e; have := hi.2.1; omega
   ·refine (c x hx m hm).weaken (fun i _ hi => ⟨jk h.le hi.1, hi.2.1, fun hm => ?_⟩)
    rcases aab.1 hm with e | hm
    ·have := h.k i e; have := hi.1; omega
    ·exact hi.2.2 hm
theorem SegB.all {w : World} : ∀ {l : List BrT} {lo hi : Nat}, SegB w lo l hi → (∀ q ∈ l, Own lo 64 12 aat w q.pv q.zu ∧ Own lo 68 2 abc w q.tv q.zy ∧ ∀ k, q.pv.ownBlock = some k → k < hi) ∧ l.Pairwise (fun a b => ∀ i, a.pv.ownBlock = some i → b.pv.ownBlock ≠ some i) ∧ ∀ q ∈ l, ∀ m ∈ q.zu, Rd (fun i => lo ≤ i ∧ i < hi ∧ ¬ Mut (l.map BrT.pv) i) w m.pr.app
 | [], lo, hi, _ => ⟨fun q hq => (by cases hq), List.Pairwise.nil, fun q hq => (by cases hq)⟩
 | q :: l, lo, hi, ⟨mid, h, t, tk, k⟩ => by
  obtain ⟨a, b, c⟩ := SegB.all k; have hk := k.le; refine ⟨fun x hx => ?_, List.pairwise_cons.2 ⟨fun x hx i e1 e2 => ?_, b⟩, fun x hx m hm => ?_⟩
  ·rcases List.mem_cons.1 hx with rfl | hx
   ·exact ⟨h.o, t, fun i e => jg (h.k i e) hk⟩
   ·exact ⟨(a x hx).1.rebase (fun i e => jk h.le ((a x hx).1.ge e)), (a x hx).2.1.rebase (fun i e => jk h.le ((a x hx).2.1.ge e)), (a x hx).2.2⟩
  ·have h1 := h.k i e1
   have h2 := (a x hx).1.ge e2; omega
  ·rcases List.mem_cons.1 hx with rfl | hx
   ·refine (h.r m hm).weaken (fun i _ hi => ⟨hi.1, jg hi.2.1 hk, fun hm => ?_⟩)
    rcases aab.1 hm with e | ⟨v, hv, e⟩
    ·exact hi.2.2 e
    ·obtain ⟨y, hy, rfl⟩ := jv.1 hv
     have := (a y hy).1.ge e; have := hi.2.1; omega
   ·refine (c x hx m hm).weaken (fun i _ hi => ⟨jk h.le hi.1, hi.2.1, fun hm => ?_⟩)
    rcases aab.1 hm with e | hm
    ·have := h.k i e; have := hi.1; omega
    ·exact hi.2.2 hm
theorem StOw.mk' {B B1 lo mid hi : Nat} {w : World} {t : StT} (hq : Own B1 51 3 aar w t.qv t.qs) (hb : Own B1 62 5 aa7 w t.bv t.zk) (hh : Own B1 90 4 adp w t.hv t.hs)
 (hl : ∀ k, t.qv.ownBlock = some k ∨ t.bv.ownBlock = some k ∨ t.hv.ownBlock = some k → k < lo) (hQ : SegQ w lo t.qs mid) (hS : SegB w mid t.zk hi) (hB : B ≤ B1) (hB1 : B1 ≤ lo) (wf : StWf t) : StOw B w t := by
 obtain ⟨a1, a2, a3⟩ := hQ.all
 obtain ⟨b1, b2, b3⟩ := hS.all
 have hm := hQ.le
 refine ⟨hq.rebase (fun k e => jk hB (hq.ge e)), hb.rebase (fun k e => jk hB (hb.ge e)), hh.rebase (fun k e => jk hB (hh.ge e)), fun q hq' => (a1 q hq').1.rebase (fun k e => ?_), fun b hb' => (b1 b hb').1.rebase (fun k e => ?_), fun b hb' => (b1 b hb').2.1.rebase (fun k e => ?_), a2, b2, fun q hq' m hm' => (a3 q hq' m hm').weaken (fun i _ hi' => ⟨?_, fun hmu => ?_⟩), fun b hb' m hm' => (b3 b hb' m hm').weaken (fun i _ hi' => ⟨?_, fun hmu => ?_⟩), wf⟩
 ·have := (a1 q hq').1.ge e; omega
 ·have := (b1 b hb').1.ge e; omega
 ·have := (b1 b hb').2.1.ge e; omega
 ·have := hi'.1; omega
 ·unfold StT.mv at hmu
  rw [aab, aab, aab, abd] at hmu; have h1 := hi'.1; rcases hmu with e | e | e | e | ⟨v, hv, e⟩
  ·have := hl i (.inl e); omega
  ·have := hl i (.inr (.inl e)); omega
  ·have := hl i (.inr (.inr e)); omega
  ·exact hi'.2.2 e
  ·obtain ⟨y, hy, rfl⟩ := jv.1 hv
   have := (b1 y hy).1.ge e; have := hi'.2.1; omega
 ·have := hi'.1; omega
 ·unfold StT.mv at hmu
  rw [aab, aab, aab, abd] at hmu; have h1 := hi'.1; rcases hmu with e | e | e | ⟨v, hv, e⟩ | e
  ·have := hl i (.inl e); omega
  ·have := hl i (.inr (.inl e)); omega
  ·have := hl i (.inr (.inr e)); omega
  ·obtain ⟨y, hy, rfl⟩ := jv.1 hv
   have := (a1 y hy).2 i e; omega
  ·exact hi'.2.2 e
def BlkT (w : World) (b : Nat) (cs : List Value) (T : TypeId) : Prop := w.heap[b]? = some (.cells cs.toArray T (0, 0))
theorem BlkT.blk {w : World} {b : Nat} {cs : List Value} {T : TypeId} (h : BlkT w b cs T) : Blk w b cs := ⟨T, h⟩
theorem BlkT.new (w : World) (cs : List Value) (T : TypeId) : BlkT (w.alloc (.cells cs.toArray T)) w.heap.size cs T := by
 unfold BlkT; exact heap_alloc_new w _
theorem BlkT.keep {w w' : World} {b : Nat} {cs : List Value} {T : TypeId} (h : BlkT w b cs T) (hk : w'.heap[b]? = w.heap[b]?) : BlkT w' b cs T := hk.trans h
theorem BlkT.upd {S : Nat → Prop} {w w' : World} {b : Nat} {cs : List Value} {T : TypeId} (h : BlkT w b cs T) (hu : Upd S w w') (hs : ¬ S b) : BlkT w' b cs T := h.keep (hu.block b h.blk.lt hs)
theorem BlkT.pure {w w' : World} {b : Nat} {cs : List Value} {T : TypeId} (h : BlkT w b cs T) (hu : Below w.heap.size w w') : BlkT w' b cs T := h.keep (hu.block b h.blk.lt)
theorem BlkT.set {w : World} {b : Nat} {cs : List Value} {T : TypeId} (h : BlkT w b cs T) (i : Nat) (v : Value) : BlkT (w.setCell ⟨b, i, none⟩ v) b (cs.set i v) T := by
 show (w.heap.modify b _)[b]? = _
 unfold BlkT at h
 rw [Array.getElem?_modify, qw rfl, h]
 simp
theorem abm {α : Type} {B e m : Nat} {enc : α → List Value} {w : World} {v : Value} {L : List α} {b : Nat} {cs : List Value} {T : TypeId} (h : Own B e m enc w v L) (hb : BlkT w b cs T) (hne : e ≠ T) : v.ownBlock ≠ some b := by
 intro hi
 rcases h.2 with ⟨rfl, _⟩ | ⟨g, cap, cur, rfl, _, hg, _⟩
 ·simp [Value.ownBlock] at hi
 ·simp only [Value.ownBlock, jy] at hi
  subst hi; unfold BlkT at hb; rw [hb] at hg; simp only [jy, Obj.cells.injEq] at hg; exact hne hg.2.1.symm
def Far (B m : Nat) (ex : Value) (t : StT) (i : Nat) : Prop := B ≤ i ∧ i ≠ m ∧ ¬ Mut (ex :: t.mv) i
structure MkS (B m : Nat) (ex : Value) (w : World) (t : StT) : Prop where
 a : BlkT w m [.int .u64 t.next, t.qv, t.bv, t.hv] 81
 mB : B ≤ m
 q : Own B 51 3 aar w t.qv t.qs
 b : Own B 62 5 aa7 w t.bv t.zk
 h : Own B 90 4 adp w t.hv t.hs
 mm : ∀ q ∈ t.qs, Own B 60 11 abl w q.mv q.zw
 p : ∀ b ∈ t.zk, Own B 64 12 aat w b.pv b.zu
 tk : ∀ b ∈ t.zk, Own B 68 2 abc w b.tv b.zy
 md : t.qs.Pairwise (fun a b => ∀ i, a.mv.ownBlock = some i → b.mv.ownBlock ≠ some i)
 pd : t.zk.Pairwise (fun a b => ∀ i, a.pv.ownBlock = some i → b.pv.ownBlock ≠ some i)
 xd : ∀ b ∈ t.zk, ∀ i, b.pv.ownBlock = some i → ex.ownBlock ≠ some i
 ra : ∀ q ∈ t.qs, ∀ x ∈ q.zw, Rd (Far B m ex t) w x.pr.app
 rb : ∀ b ∈ t.zk, ∀ x ∈ b.zu, Rd (Far B m ex t) w x.pr.app
 wf : StWf t
theorem MkS.pure {B m : Nat} {ex : Value} {w w' : World} {t : StT} (h : MkS B m ex w t) (hB : Below w.heap.size w w') : MkS B m ex w' t :=
 ⟨h.a.pure hB, h.mB, h.q.pure hB, h.b.pure hB, h.h.pure hB, fun q hq => (h.mm q hq).pure hB, fun b hb => (h.p b hb).pure hB, fun b hb => (h.tk b hb).pure hB, h.md, h.pd, h.xd, fun q hq x hx => (h.ra q hq x hx).pure hB, fun b hb x hx => (h.rb b hb x hx).pure hB, h.wf⟩
theorem MkS.of {B : Nat} {w : World} {t : StT} (h : StOw B w t) (hB : B ≤ w.heap.size) : MkS B w.heap.size (.slice none 0 0) (w.alloc (.cells #[.int .u64 t.next, t.qv, t.bv, t.hv] 81)) t := by
 have hA := (qz w.heap.size w).alloc (qj _) (.cells #[.int .u64 t.next, t.qv, t.bv, t.hv] 81)
 have hw : ∀ v : VT, Rd (fun i => B ≤ i ∧ ¬ Mut t.mv i) w v → Rd (Far B w.heap.size (.slice none 0 0) t) (w.alloc (.cells #[.int .u64 t.next, t.qv, t.bv, t.hv] 81)) v := fun v h =>
  (h.lt.pure hA).weaken (fun i _ hi => ⟨hi.1.1, by have := hi.2; omega, fun hm => by
   rcases aab.1 hm with e | e
   ·simp [Value.ownBlock] at e
   ·exact hi.1.2 e⟩)
 exact ⟨BlkT.new w [.int .u64 t.next, t.qv, t.bv, t.hv] _, hB, h.q.pure hA, h.b.pure hA, h.h.pure hA, fun q hq => (h.m q hq).pure hA, fun b hb => (h.p b hb).pure hA, fun b hb => (h.tk b hb).pure hA, h.md, h.pd, fun b _ i _ e => by simp [Value.ownBlock] at e, fun q hq x hx => hw _ (h.ra q hq x hx), fun b hb x hx => hw _ (h.rb b hb x hx), h.wf⟩
theorem MkS.rd {B m : Nat} {ex : Value} {w : World} {t : StT} (h : MkS B m ex w t) : StRd (fun i => B ≤ i) w t :=
 ⟨h.q.slc aaf, fun k e _ => h.q.ge e, fun q hq => ⟨(h.mm q hq).slc aac, fun k e _ => (h.mm q hq).ge e, fun x hx => (h.ra q hq x hx).weaken (fun i _ hi => hi.1), h.wf.mi q hq⟩,
  h.b.slc aag, fun k e _ => h.b.ge e, fun b hb => ⟨(h.p b hb).slc aae, fun k e _ => (h.p b hb).ge e, fun x hx => (h.rb b hb x hx).weaken (fun i _ hi => hi.1), (h.tk b hb).slc aa9, fun k e _ => (h.tk b hb).ge e,
   ⟨by show (0 : Int) ≤ 4; omega, by show (4 : Int) < 256; omega, by show (0 : Int) ≤ 0; omega, by show (0 : Int) < _; omega, (h.wf.bx b hb).1, (h.wf.bx b hb).2, fun p hp => by
    obtain ⟨y, hy, rfl⟩ := jv.1 hp
    exact ⟨(h.wf.pi b hb y hy).1, (h.wf.pi b hb y hy).2, (h.rb b hb y hy).wf⟩, h.wf.ti b hb⟩⟩,
  h.h.slc adi, fun k e _ => h.h.ge e, h.wf.n, h.wf.ql, h.wf.hx⟩
theorem MkS.setQ {B m : Nat} {ex : Value} {w w1 : World} {t : StT} (h : MkS B m ex w t) {r : Value} {qs : List QuT} (hO : Own B 51 3 aar w1 r qs) (hu : Upd (fun k => t.qv.ownBlock = some k) w w1) (hr : ∀ k, r.ownBlock = some k → t.qv.ownBlock = some k ∨ w.heap.size ≤ k)
 (hq : ∀ q ∈ qs, q ∈ t.qs ∨ (q.mv = .slice none 0 0 ∧ q.zw = [])) (hd : qs.Pairwise (fun a b => ∀ i, a.mv.ownBlock = some i → b.mv.ownBlock ≠ some i)) (hw : StWf { t with qv := r, qs := qs }) :
 MkS B m ex (w1.setCell ⟨m, 1, none⟩ r) { t with qv := r, qs := qs } := by
 have hm : t.qv.ownBlock ≠ some m := abm h.q h.a (by decide)
 have ha1 : BlkT w1 m [.int .u64 t.next, t.qv, t.bv, t.hv] 81 := h.a.upd hu hm
 have hU : Upd (fun k => t.qv.ownBlock = some k ∨ k = m) w (w1.setCell ⟨m, 1, none⟩ r) := (hu.mono (fun i e _ => .inl e)).trans (Upd.set (S := fun k => k = m) rfl r) (fun i e _ => .inr e)
 have hrm : r.ownBlock ≠ some m := abm hO ha1 (by decide)
 have hmv : ∀ v : Value, v ∈ t.qs.map QuT.mv → v ∈ t.qs.map QuT.mv := fun _ h => h
 have hfar : ∀ v : VT, Rd (Far B m ex t) w v → Rd (Far B m ex { t with qv := r, qs := qs }) (w1.setCell ⟨m, 1, none⟩ r) v := fun v hv =>
  (hv.lt.upd hU (fun i hi e => by
   rcases e with e | e
   ·exact hi.1.2.2 (aab.2 (.inr (aab.2 (.inl e))))
   ·exact hi.1.2.1 e)).weaken (fun i _ hi => ⟨hi.1.1, hi.1.2.1, fun hM => by
    apply hi.1.2.2; unfold StT.mv at hM ⊢; simp only [aab, abd] at hM ⊢; rcases hM with e | e | e | e | e | e
    ·exact .inl e
    ·rcases hr i e with e | e
     ·exact .inr (.inl e)
     ·have := hi.2; omega
    ·exact .inr (.inr (.inl e))
    ·exact .inr (.inr (.inr (.inl e)))
    ·obtain ⟨v, hv, e⟩ := e
     obtain ⟨q, hqm, rfl⟩ := jv.1 hv; rcases hq q hqm with h1 | ⟨h1, _⟩
     ·exact .inr (.inr (.inr (.inr (.inl ⟨_, jw h1, e⟩))))
     ·rw [h1] at e; simp [Value.ownBlock] at e
    ·exact .inr (.inr (.inr (.inr (.inr e))))⟩)
 have hoth : ∀ {α : Type} {e n : Nat} {enc : α → List Value} {v : Value} {L : List α}, e ≠ 51 → e ≠ 81 → Own B e n enc w v L → Own B e n enc (w1.setCell ⟨m, 1, none⟩ r) v L := fun h1 h2 ho =>
  ho.upd hU (fun k hk e => by
   rcases e with e | e
   ·exact aaz ho h.q h1 hk e
   ·exact abm ho h.a h2 (by rw [hk, e]))
 refine ⟨ha1.set 1 r, h.mB, hO.other _ _ (fun k hk e => hrm (by rw [hk]; exact congrArg some e)), hoth (by decide) (by decide) h.b, hoth (by decide) (by decide) h.h, fun q hqm => ?_, fun b hb => hoth (by decide) (by decide) (h.p b hb), fun b hb => hoth (by decide) (by decide) (h.tk b hb), hd, h.pd, h.xd, fun q hqm x hx => ?_, fun b hb x hx => hfar _ (h.rb b hb x hx), hw⟩
 ·rcases hq q hqm with h1 | ⟨h1, h2⟩
  ·exact hoth (by decide) (by decide) (h.mm q h1)
  ·rw [h1, h2]; exact Own.nil
 ·rcases hq q hqm with h1 | ⟨h1, h2⟩
  ·exact hfar _ (h.ra q h1 x hx)
  ·rw [h2] at hx; cases hx
theorem MkS.setN {B m : Nat} {ex : Value} {w : World} {t : StT} (h : MkS B m ex w t) {n : Int} (hn : 0 ≤ n ∧ n < 18446744073709551616) : MkS B m ex (w.setCell ⟨m, 0, none⟩ (.int .u64 n)) { t with next := n } := by
 have hU : Upd (fun k => k = m) w (w.setCell ⟨m, 0, none⟩ (.int .u64 n)) := Upd.set (S := fun k => k = m) rfl _
 have hfar : ∀ v : VT, Rd (Far B m ex t) w v → Rd (Far B m ex { t with next := n }) (w.setCell ⟨m, 0, none⟩ (.int .u64 n)) v := fun v hv => (hv.upd hU (fun i hi e => hi.2.1 e)).weaken (fun i _ hi => hi)
 have hoth : ∀ {α : Type} {e k : Nat} {enc : α → List Value} {v : Value} {L : List α}, e ≠ 81 → Own B e k enc w v L → Own B e k enc (w.setCell ⟨m, 0, none⟩ (.int .u64 n)) v L := fun h2 ho =>
  ho.upd hU (fun k hk e => abm ho h.a h2 (by rw [hk, show k = m from e]))
 exact ⟨h.a.set 0 _, h.mB, hoth (by decide) h.q, hoth (by decide) h.b, hoth (by decide) h.h, fun q hq => hoth (by decide) (h.mm q hq), fun b hb => hoth (by decide) (h.p b hb), fun b hb => hoth (by decide) (h.tk b hb), h.md, h.pd, h.xd, fun q hq x hx => hfar _ (h.ra q hq x hx), fun b hb x hx => hfar _ (h.rb b hb x hx), ⟨hn, h.wf.ql, h.wf.mi, h.wf.bx, h.wf.pi, h.wf.ti, h.wf.hx⟩⟩
structure BrX (B m : Nat) (w : World) (t : StT) (b : BrT) : Prop where
 p : Own B 64 12 aat w b.pv b.zu
 tk : Own B 68 2 abc w b.tv b.zy
 r : ∀ x ∈ b.zu, Rd (Far B m b.pv t) w x.pr.app
 pi : ∀ p ∈ b.zu, 0 ≤ p.id ∧ p.id < 18446744073709551616
 ti : ∀ r ∈ b.zy, 0 ≤ r.id ∧ r.id < 18446744073709551616
theorem MkS.delB {B m : Nat} {w w2 : World} {t : StT} (h : MkS B m (.slice none 0 0) w t) {i : Nat} (hi : i < t.zk.length) {r : Value} (hO : Own B 62 5 aa7 w2 r (t.zk.eraseIdx i)) (ha : BlkT w2 m [.int .u64 t.next, t.qv, r, t.hv] 81) (hU : Upd (fun k => t.bv.ownBlock = some k ∨ k = m) w w2) (hr : ∀ k, r.ownBlock = some k → t.bv.ownBlock = some k) :
 MkS B m t.zk[i].pv w2 { t with bv := r, zk := t.zk.eraseIdx i } ∧ BrX B m w2 { t with bv := r, zk := t.zk.eraseIdx i } t.zk[i] := by
 have hsub := fun b hb => (List.eraseIdx_sublist t.zk i).subset (a := b) hb
 have hmem := qy hi
 have hfar : ∀ v : VT, Rd (Far B m (.slice none 0 0) t) w v → Rd (Far B m t.zk[i].pv { t with bv := r, zk := t.zk.eraseIdx i }) w2 v := fun v hv =>
  (hv.upd hU (fun i hi e => by
   rcases e with e | e
   ·exact hi.2.2 (aab.2 (.inr (aab.2 (.inr (aab.2 (.inl e))))))
   ·exact hi.2.1 e)).weaken (fun j _ hj => ⟨hj.1, hj.2.1, fun hM => by
    apply hj.2.2; unfold StT.mv at hM ⊢; simp only [aab, abd] at hM ⊢; rcases hM with e | e | e | e | e | e
    ·exact .inr (.inr (.inr (.inr (.inr ⟨_, jw hmem, e⟩))))
    ·exact .inr (.inl e)
    ·exact .inr (.inr (.inl (hr j e)))
    ·exact .inr (.inr (.inr (.inl e)))
    ·exact .inr (.inr (.inr (.inr (.inl e))))
    ·obtain ⟨v, hv, e⟩ := e
     obtain ⟨b, hb, rfl⟩ := jv.1 hv
     exact .inr (.inr (.inr (.inr (.inr ⟨_, jw (hsub b hb), e⟩))))⟩)
 have hoth : ∀ {α : Type} {e n : Nat} {enc : α → List Value} {v : Value} {L : List α}, e ≠ 62 → e ≠ 81 → Own B e n enc w v L → Own B e n enc w2 v L := fun h1 h2 ho =>
  ho.upd hU (fun k hk e => by
   rcases e with e | e
   ·exact aaz ho h.b h1 hk e
   ·exact abm ho h.a h2 (by rw [hk, e]))
 have hpw := List.pairwise_iff_getElem.1 h.pd
 refine ⟨⟨ha, h.mB, hoth (by decide) (by decide) h.q, hO, hoth (by decide) (by decide) h.h, fun q hq => hoth (by decide) (by decide) (h.mm q hq), fun b hb => hoth (by decide) (by decide) (h.p b (hsub b hb)), fun b hb => hoth (by decide) (by decide) (h.tk b (hsub b hb)), h.md, h.pd.sublist (List.eraseIdx_sublist _ _), fun b hb j e1 e2 => ?_, fun q hq x hx => hfar _ (h.ra q hq x hx), fun b hb x hx => hfar _ (h.rb b (hsub b hb) x hx), ⟨h.wf.n, h.wf.ql, h.wf.mi, fun b hb => h.wf.bx b (hsub b hb), fun b hb => h.wf.pi b (hsub b hb), fun b hb => h.wf.ti b (hsub b hb), h.wf.hx⟩⟩, ⟨hoth (by decide) (by decide) (h.p _ hmem), hoth (by decide) (by decide) (h.tk _ hmem), fun x hx => hfar _ (h.rb _ hmem x hx), h.wf.pi _ hmem, h.wf.ti _ hmem⟩⟩
 obtain ⟨k, hk, rfl⟩ := List.getElem_of_mem hb
 rw [List.length_eraseIdx_of_lt hi] at hk
 rw [List.getElem_eraseIdx] at e1
 split at e1
 ·rename_i hlt
  exact hpw k i (by omega) hi hlt j e1 e2
 ·rename_i hlt
  exact hpw i (k + 1) hi (by omega) (by omega) j e2 e1
theorem ahq {P : Prop} (h : P := by
 rcases jd hq with hq | rfl
 ·exact h.wf.ql q hq
 ·have := h.wf.ql t.qs[k] hmem
  exact this) : P := h
theorem agj {P : Prop} (h : P := by
 exact .inr (.inr (.inr (.inr (.inl ⟨_, jw hmem, e⟩))))) : P := h
theorem MkS.setM {B m : Nat} {ex : Value} {w w1 : World} {t : StT} (h : MkS B m ex w t) {k : Nat} (hk : k < t.qs.length) {g n c : Nat} (hqv : t.qv = .slice (some ⟨g, 0, none⟩) n c) {r : Value} {L : List MsT}
 (hO : Own B 60 11 abl w1 r L) (hone : r.oneCell' = true) (hrv : one r = r) (hu : Upd (fun i => t.qs[k].mv.ownBlock = some i) w w1) (hr : ∀ i, r.ownBlock = some i → t.qs[k].mv.ownBlock = some i ∨ w.heap.size ≤ i)
 (hx : ∀ x ∈ L, (∃ y ∈ t.qs[k].zw, y.pr.app = x.pr.app) ∨ Rd (fun i => B ≤ i ∧ i ≠ m ∧ ¬ Mut (ex :: t.mv) i ∧ r.ownBlock ≠ some i) w1 x.pr.app) (hid : ∀ x ∈ L, 0 ≤ x.id ∧ x.id < 18446744073709551616) :
 MkS B m ex (w1.setCell ⟨g, k * 3 + 2, none⟩ r) { t with qs := t.qs.set k { t.qs[k] with mv := r, zw := L } } := by
 have hmem := qy hk
 have hqb : t.qv.ownBlock = some g := by rw [hqv]; rfl
 have hgm : g ≠ m := fun e => abm h.q h.a (by decide) (by rw [hqb, e])
 have hmm0 := h.mm _ hmem
 have ha1 : BlkT w1 m [.int .u64 t.next, t.qv, t.bv, t.hv] 81 := h.a.upd hu (abm hmm0 h.a (by decide))
 have hUg : Upd (fun i => i = g) w1 (w1.setCell ⟨g, k * 3 + 2, none⟩ r) := Upd.set (S := fun i => i = g) rfl r
 have hU : Upd (fun i => t.qs[k].mv.ownBlock = some i ∨ i = g) w (w1.setCell ⟨g, k * 3 + 2, none⟩ r) := (hu.mono (fun i e _ => .inl e)).trans hUg (fun i e _ => .inr e)
 have hq1 : Own B 51 3 aar w1 t.qv t.qs := h.q.upd hu (fun i hi e => aaz h.q hmm0 (by decide) hi e)
 have hmg : Mut (ex :: t.mv) g := aab.2 (.inr (aab.2 (.inl hqb)))
 have hmk : ∀ i, t.qs[k].mv.ownBlock = some i → Mut (ex :: t.mv) i := fun i e => by
  unfold StT.mv; simp only [aab, abd]; exact agj
 have hM' : ∀ i, Mut (ex :: StT.mv { t with qs := t.qs.set k { t.qs[k] with mv := r, zw := L } }) i → Mut (ex :: t.mv) i ∨ r.ownBlock = some i := fun i hM => by
  unfold StT.mv at hM ⊢; simp only [aab, abd] at hM ⊢; rcases hM with e | e | e | e | e | e
  ·exact .inl (.inl e)
  ·exact .inl (.inr (.inl e))
  ·exact .inl (.inr (.inr (.inl e)))
  ·exact .inl (.inr (.inr (.inr (.inl e))))
  ·obtain ⟨v, hv, e⟩ := e
   obtain ⟨q, hq, rfl⟩ := jv.1 hv; rcases jd hq with hq | rfl
   ·exact .inl (.inr (.inr (.inr (.inr (.inl ⟨_, jw hq, e⟩)))))
   ·exact .inr e
  ·exact .inl (.inr (.inr (.inr (.inr (.inr e)))))
 have hfar : ∀ v : VT, Rd (Far B m ex t) w v → Rd (Far B m ex { t with qs := t.qs.set k { t.qs[k] with mv := r, zw := L } }) (w1.setCell ⟨g, k * 3 + 2, none⟩ r) v := fun v hv =>
  (hv.lt.upd hU (fun i hi e => by
   rcases e with e | e
   ·exact hi.1.2.2 (hmk i e)
   ·exact hi.1.2.2 (by rw [e]; exact hmg))).weaken (fun i _ hi => ⟨hi.1.1, hi.1.2.1, fun hM => by
    rcases hM' i hM with e | e
    ·exact hi.1.2.2 e
    ·rcases hr i e with e | e
     ·exact hi.1.2.2 (hmk i e)
     ·have := hi.2; omega⟩)
 have hoth : ∀ {α : Type} {e n : Nat} {enc : α → List Value} {v : Value} {L : List α}, e ≠ 51 → e ≠ 60 → Own B e n enc w v L → Own B e n enc (w1.setCell ⟨g, k * 3 + 2, none⟩ r) v L := fun h1 h2 ho =>
  ho.upd hU (fun i hi e => by
   rcases e with e | e
   ·exact aaz ho hmm0 h2 hi e
   ·exact aaz ho h.q h1 (by rw [hi, e]) hqb)
 have hpw := List.pairwise_iff_getElem.1 h.md
 have hdis : ∀ j, (hj : j < t.qs.length) → j ≠ k → ∀ i, t.qs[j].mv.ownBlock = some i → t.qs[k].mv.ownBlock ≠ some i := fun j hj hne i e1 e2 => by
  rcases Nat.lt_or_ge j k with q | q
  ·exact hpw j k hj hk q i e1 e2
  ·exact hpw k j hk hj (by omega) i e2 e1
 have hset := (hqv ▸ hq1).set aaf k hk 2 r { t.qs[k] with mv := r, zw := L } (by omega) (by
  show aar { t.qs[k] with mv := r, zw := L } = (aar t.qs[k]).set 2 r
  unfold aar; dsimp only; rw [hrv]; rfl)
 refine ⟨ha1.upd hUg (fun e => hgm (show m = g from e).symm), h.mB, by show Own B _ 3 aar _ t.qv _; rw [hqv]; exact hset, hoth (by decide) (by decide) h.b, hoth (by decide) (by decide) h.h, fun q hq => ?_, fun b hb => hoth (by decide) (by decide) (h.p b hb), fun b hb => hoth (by decide) (by decide) (h.tk b hb), ?_, h.pd, h.xd, fun q hq x hx' => ?_, fun b hb x hx' => hfar _ (h.rb b hb x hx'), ⟨h.wf.n, fun q hq => ?_, fun q hq => ?_, h.wf.bx, h.wf.pi, h.wf.ti, h.wf.hx⟩⟩
 ·obtain ⟨j, hj, rfl⟩ := List.getElem_of_mem hq
  rw [List.length_set] at hj; rw [List.getElem_set]; split
  ·exact hO.upd hUg (fun i hi e => aaz hO hq1 (by decide) hi (by rw [show i = g from e]; exact hqb))
  ·rename_i hne
   have hoj := h.mm _ (qy hj); exact (hoj.upd hu (fun i hi e => hdis j hj (fun e => hne e.symm) i hi e)).upd hUg (fun i hi e => aaz hoj h.q (by decide) hi (by rw [show i = g from e]; exact hqb))
 ·rw [List.pairwise_iff_getElem]
  intro a b ha hb hab i e1 e2; rw [List.length_set] at ha hb; rw [List.getElem_set] at e1 e2; have hlt : ∀ j, (hj : j < t.qs.length) → ∀ i, t.qs[j].mv.ownBlock = some i → i < w.heap.size := fun j hj i e => (h.mm _ (qy hj)).lt e
  split at e1
  ·rename_i hka
   subst hka; rw [qk (by omega)] at e2; rcases hr i e1 with e | e
   ·exact hdis b hb (by omega) i e2 e
   ·have := hlt b hb i e2; omega
  ·split at e2
   ·rename_i hkb
    subst hkb; rcases hr i e2 with e | e
    ·exact hdis a ha (by omega) i e1 e
    ·have := hlt a ha i e1; omega
   ·exact hpw a b ha hb hab i e1 e2
 ·rcases jd hq with hq | rfl
  ·exact hfar _ (h.ra q hq x hx')
  ·rcases hx x hx' with ⟨y, hy, e⟩ | h1
   ·rw [← e]; exact hfar _ (h.ra _ hmem y hy)
   ·refine (h1.upd hUg (fun i hi e => hi.2.2.1 (by rw [show i = g from e]; exact hmg))).weaken (fun i _ hi => ⟨hi.1, hi.2.1, fun hM => ?_⟩)
    rcases hM' i hM with e | e
    ·exact hi.2.2.1 e
    ·exact hi.2.2.2 e
 ·exact ahq
 ·rcases jd hq with hq | rfl
  ·exact h.wf.mi q hq
  ·exact hid
def MsT.mark (x : MsT) : MsT := { x with pr := { x.pr with red := true } }
theorem MsT.mark_m (x : MsT) : x.mark.m = x.m.mark := rfl
theorem alr {P : Prop} (h : P := by
 refine (hoth (by decide) h.q).as (by simp) ?_
 have e : (t.qs.set k { t.qs[k] with zw := t.qs[k].zw.set j t.qs[k].zw[j].mark }).map aar = t.qs.map aar := by
  rw [List.map_set]; apply List.ext_getElem (by simp); intro i h1 h2; rw [List.getElem_set]; split
  ·rename_i e; subst e; rw [zq]; rfl
  ·rfl
 rw [List.flatMap_def, List.flatMap_def, e]) : P := h
theorem aj0 {P : Prop} (h : P := by
 rw [List.pairwise_iff_getElem]
 intro a b ha hb hab i e1 e2
 rw [List.length_set] at ha hb
 rw [List.getElem_set] at e1 e2
 split at e1
 ·rename_i e; subst e
  rw [qk (by omega)] at e2; exact hpw k b hk hb hab i e1 e2
 ·split at e2
  ·rename_i e; subst e
   exact hpw a k ha hk hab i e1 e2
  ·exact hpw a b ha hb hab i e1 e2) : P := h
theorem aj1 {P : Prop} (h : P := by
 rcases jd hq with hq | rfl
 ·exact hfar _ (h.ra q hq x hx')
 ·rcases jd hx' with hx | rfl
  ·exact hfar _ (h.ra _ hmem x hx)
  ·have := h.ra _ hmem t.qs[k].zw[j] (qy hj)
   exact hfar _ this) : P := h
theorem aj2 {P : Prop} (h : P := by
 rcases jd hq with hq | rfl
 ·exact h.wf.mi q hq
 ·intro x hx
  rcases jd hx with hx | rfl
  ·exact h.wf.mi _ hmem x hx
  ·have := h.wf.mi _ hmem t.qs[k].zw[j] (qy hj)
   exact this) : P := h
theorem MkS.mark {B m : Nat} {ex : Value} {w : World} {t : StT} (h : MkS B m ex w t) {k : Nat} (hk : k < t.qs.length) {g n c : Nat} (hv : t.qs[k].mv = .slice (some ⟨g, 0, none⟩) n c) {j : Nat} (hj : j < t.qs[k].zw.length) :
 MkS B m ex (w.setCell ⟨g, j * 11 + 3, none⟩ (.bool true)) { t with qs := t.qs.set k { t.qs[k] with zw := t.qs[k].zw.set j t.qs[k].zw[j].mark } } := by
 have hmem := qy hk
 have hmb : t.qs[k].mv.ownBlock = some g := by rw [hv]; rfl
 have hmm0 := h.mm _ hmem
 have hgm : g ≠ m := fun e => abm hmm0 h.a (by decide) (by rw [hmb, e])
 have hU : Upd (fun i => i = g) w (w.setCell ⟨g, j * 11 + 3, none⟩ (.bool true)) := Upd.set (S := fun i => i = g) rfl _
 have hmk : ∀ i, t.qs[k].mv.ownBlock = some i → Mut (ex :: t.mv) i := fun i e => by
  unfold StT.mv; simp only [aab, abd]; exact agj
 have hM' : ∀ i, Mut (ex :: StT.mv { t with qs := t.qs.set k { t.qs[k] with zw := t.qs[k].zw.set j t.qs[k].zw[j].mark } }) i → Mut (ex :: t.mv) i := fun i hM => by
  unfold StT.mv at hM ⊢; simp only [aab, abd] at hM ⊢; rcases hM with e | e | e | e | e | e
  ·exact .inl e
  ·exact .inr (.inl e)
  ·exact .inr (.inr (.inl e))
  ·exact .inr (.inr (.inr (.inl e)))
  ·obtain ⟨v, hv, e⟩ := e
   obtain ⟨q, hq, rfl⟩ := jv.1 hv; rcases jd hq with hq | rfl
   ·exact .inr (.inr (.inr (.inr (.inl ⟨_, jw hq, e⟩))))
   ·exact agj
  ·exact .inr (.inr (.inr (.inr (.inr e))))
 have hfar : ∀ v : VT, Rd (Far B m ex t) w v → Rd (Far B m ex { t with qs := t.qs.set k { t.qs[k] with zw := t.qs[k].zw.set j t.qs[k].zw[j].mark } }) (w.setCell ⟨g, j * 11 + 3, none⟩ (.bool true)) v := fun v hv =>
  (hv.upd hU (fun i hi e => hi.2.2 (hmk i (by rw [hmb, show i = g from e])))).weaken (fun i _ hi => ⟨hi.1, hi.2.1, fun hM => hi.2.2 (hM' i hM)⟩)
 have hoth : ∀ {α : Type} {e n : Nat} {enc : α → List Value} {v : Value} {L : List α}, e ≠ 60 → Own B e n enc w v L → Own B e n enc (w.setCell ⟨g, j * 11 + 3, none⟩ (.bool true)) v L := fun h2 ho =>
  ho.upd hU (fun i hi e => aaz ho hmm0 h2 hi (by rw [show i = g from e]; exact hmb))
 have hpw := List.pairwise_iff_getElem.1 h.md
 have hdis : ∀ i, (hi : i < t.qs.length) → i ≠ k → t.qs[i].mv.ownBlock ≠ some g := fun i hi hne e1 => by
  rcases Nat.lt_or_ge i k with q | q
  ·exact hpw i k hi hk q g e1 hmb
  ·exact hpw k i hk hi (by omega) g hmb e1
 have hset := (hv ▸ hmm0).set aac j hj 3 (.bool true) t.qs[k].zw[j].mark (by omega) rfl
 have hqe : Own B 51 3 aar (w.setCell ⟨g, j * 11 + 3, none⟩ (.bool true)) t.qv (t.qs.set k { t.qs[k] with zw := t.qs[k].zw.set j t.qs[k].zw[j].mark }) := by
  exact alr
 refine ⟨h.a.upd hU (fun e => hgm (show m = g from e).symm), h.mB, hqe, hoth (by decide) h.b, hoth (by decide) h.h, fun q hq => ?_, fun b hb => hoth (by decide) (h.p b hb), fun b hb => hoth (by decide) (h.tk b hb), ?_, h.pd, h.xd, fun q hq x hx' => ?_, fun b hb x hx' => hfar _ (h.rb b hb x hx'), ⟨h.wf.n, fun q hq => ?_, fun q hq => ?_, h.wf.bx, h.wf.pi, h.wf.ti, h.wf.hx⟩⟩
 ·obtain ⟨i, hi, rfl⟩ := List.getElem_of_mem hq
  rw [List.length_set] at hi; rw [List.getElem_set]; split
  ·rename_i e
   show Own B _ 11 abl _ t.qs[k].mv _
   rw [hv]; exact hset
  ·rename_i hne
   exact (h.mm _ (qy hi)).upd hU (fun a ha e => hdis i hi (fun e => hne e.symm) (by rw [ha, show a = g from e]))
 ·exact aj0
 ·exact aj1
 ·exact ahq
 ·exact aj2
theorem MkS.noEx {B m : Nat} {ex : Value} {w : World} {t : StT} (h : MkS B m ex w t) : MkS B m (.slice none 0 0) w t :=
 have hw : ∀ v : VT, Rd (Far B m ex t) w v → Rd (Far B m (.slice none 0 0) t) w v := fun v hv => hv.weaken (fun i _ hi => ⟨hi.1, hi.2.1, fun hm => by
  rcases aab.1 hm with e | e
  ·simp [Value.ownBlock] at e
  ·exact hi.2.2 (aab.2 (.inr e))⟩)
 ⟨h.a, h.mB, h.q, h.b, h.h, h.mm, h.p, h.tk, h.md, h.pd, fun b _ i _ e => by simp [Value.ownBlock] at e, fun q hq x hx => hw _ (h.ra q hq x hx), fun b hb x hx => hw _ (h.rb b hb x hx), h.wf⟩
theorem ain {α κ : Type} {c : κ → κ → Int} {k : α → κ} {L L' : List α} (h : L'.map k = L.map k) (hr : RisK c k L) : RisK c k L' := by
 unfold RisK at *
 rw [← List.pairwise_map (f := k) (R := fun a b => c a b < 0)] at hr ⊢
 rw [h]; exact hr
theorem aun {qs : List QuT} {r : Rf} {m1 m2 : Nat} (hok : QsOk qs) (h : aqg qs r = (m1, m2, true)) : ∃ (h1 : m1 < qs.length) (h2 : m2 < qs[m1].zw.length), qs[m1].name = r.q ∧ qs[m1].zw[m2].id = r.id := by
 unfold aqg at h
 split at h
 ·rename_i hh
  obtain ⟨hl, hn⟩ := aec cmpB_ok hok.rq hh; rw [List.getElem?_eq_getElem hl] at h; simp only [jm] at h; obtain ⟨rfl, rfl, h3⟩ := h; obtain ⟨hl2, hid⟩ := aec adn (hok.rm _ (qy hl)) h3; exact ⟨hl, hl2, hn, hid⟩
 ·simp only [jm] at h
  cases h.2.2
def aeu (qs : List QuT) (m1 m2 : Nat) : List QuT := if h : m1 < qs.length then if h2 : m2 < qs[m1].zw.length then qs.set m1 { qs[m1] with zw := qs[m1].zw.set m2 qs[m1].zw[m2].mark } else qs else qs
theorem ag7 {qs : List QuT} {m1 m2 : Nat} (h1 : m1 < qs.length) (h2 : m2 < qs[m1].zw.length) : aeu qs m1 m2 = qs.set m1 { qs[m1] with zw := qs[m1].zw.set m2 qs[m1].zw[m2].mark } := by
 unfold aeu; rw [dif_pos h1, dif_pos h2]
theorem ant (qs : List QuT) (m1 m2 : Nat) : (aeu qs m1 m2).length = qs.length := by
 unfold aeu; split
 ·split
  ·rw [List.length_set]
  ·rfl
 ·rfl
theorem az3 {qs : List QuT} {r : Rf} {m1 m2 : Nat} (hok : QsOk qs) (h1 : m1 < qs.length) (h2 : m2 < qs[m1].zw.length) (hn : qs[m1].name = r.q) (hid : qs[m1].zw[m2].id = r.id) : ao1 (qs.map QuT.q) r = (aeu qs m1 m2).map QuT.q := by
 rw [ag7 h1 h2]
 refine amj hok.rq h1 hn _ (v := qs[m1].mv) ?_
 apply List.ext_getElem (by simp)
 intro i hi hj
 rw [zq, zq, zq, List.getElem_set]
 rw [jf, List.length_set] at hi
 by_cases e : m2 = i
 ·subst e
  rw [qw rfl, qw (show (qs[m1].zw[m2]).m.id = r.id from hid)]; rfl
 ·rw [qk e, qk (fun h => aln adn (hok.rm _ (qy h1)) hi h2 (fun x => e x.symm) ((show qs[m1].zw[i].id = r.id from h).trans hid.symm))]
theorem QsOk.marked {qs : List QuT} {m1 m2 : Nat} (hok : QsOk qs) (h1 : m1 < qs.length) (h2 : m2 < qs[m1].zw.length) : QsOk (aeu qs m1 m2) := by
 rw [ag7 h1 h2]
 refine ⟨ain (adk h1 rfl) hok.rq, fun q hq => ?_, by rw [List.length_set]; exact hok.lq, fun q hq => ?_⟩
 ·rcases jd hq with hq | rfl
  ·exact hok.rm q hq
  ·exact ain (adk h2 rfl) (hok.rm _ (qy h1))
 ·rcases jd hq with hq | rfl
  ·exact hok.lm q hq
  ·show (qs[m1].zw.set m2 _).length ≤ _
   rw [List.length_set]; exact hok.lm _ (qy h1)
theorem axf {qs : List Qu} {r s : Rf} (h : hasM qs s = true) : hasM (ao1 qs r) s = true :=
 ajm h (fun _ l ⟨m, hm, e⟩ => ⟨if m.id = r.id then m.mark else m, jv.2 ⟨m, hm, rfl⟩, by split <;> exact e⟩)
theorem aqn {qs : List QuT} {r : Rf} (hok : QsOk qs) (h : hasM (qs.map QuT.q) r = true) : (aqg qs r).2.2 = true := by
 obtain ⟨q, hq, hn, x, hx, hi⟩ := ad1.1 h
 obtain ⟨t, ht, rfl⟩ := jv.1 hq
 obtain ⟨y, hy, rfl⟩ := jv.1 hx
 have hh : acv abf QuT.name qs r.q = true := (adr cmpB_ok).2 ⟨t, ht, hn⟩
 obtain ⟨hl, hn2⟩ := aec cmpB_ok hok.rq hh
 unfold aqg
 rw [qw hh, List.getElem?_eq_getElem hl]
 obtain ⟨j, hj, rfl⟩ := List.getElem_of_mem ht
 have e : lbK abf QuT.name qs r.q = j := by
  by_cases e : lbK abf QuT.name qs r.q = j
  ·exact e
  ·exact jp (hn2.trans (show r.q = qs[j].name from hn.symm)) (aln cmpB_ok hok.rq hl hj e)
 show acv ad8 MsT.id (qs[lbK abf QuT.name qs r.q]).zw r.id = true
 refine (adr adn).2 ⟨y, ?_, hi⟩
 have e2 : qs[lbK abf QuT.name qs r.q] = qs[j] := by congr 1
 rw [e2]; exact hy
def az4 (l : List Qu) (r : List Rf) (i k : Nat) : Bool := match l[i]? with
 | none => false
 | some q => match q.zw[k]? with
  | none => false
  | some m => decide (0 < aa8 r ⟨q.name, m.id⟩)
def aoe (f : Nat → Nat → Bool) (l : List Qu) : List Qu := l.mapIdx (fun i q => { q with zw := q.zw.mapIdx (fun k m => if f i k then m.mark else m) })
theorem ahr {f g : Nat → Nat → Bool} {l : List Qu} (h : ∀ i (hi : i < l.length) k, k < l[i].zw.length → f i k = g i k) : aoe f l = aoe g l := by
 unfold aoe
 refine List.ext_getElem (by simp) (fun i h1 h2 => ?_)
 have hi : i < l.length := by simpa using h1
 rw [List.getElem_mapIdx, List.getElem_mapIdx]
 congr 1
 refine List.ext_getElem (by simp) (fun k h3 h4 => ?_)
 have hk : k < l[i].zw.length := by simpa using h3
 rw [List.getElem_mapIdx, List.getElem_mapIdx, h i hi k hk]
theorem aru {l : List Qu} {f : Nat → Nat → Bool} (h : ∀ i (hi : i < l.length) k, k < l[i].zw.length → f i k = false) : aoe f l = l := by
 rw [ahr (g := fun _ _ => false) h]
 unfold aoe
 refine List.ext_getElem (by simp) (fun i h1 h2 => ?_)
 rw [List.getElem_mapIdx]
 rcases hq : l[i] with ⟨n, lim, ms⟩
 congr 1
 refine List.ext_getElem (by simp) (fun k h3 h4 => ?_)
 rw [List.getElem_mapIdx]; simp
theorem amo {l : List Qu} {r : List Rf} {i k : Nat} (hi : i < l.length) (hk : k < l[i].zw.length) : az4 l r i k = decide (0 < aa8 r ⟨l[i].name, l[i].zw[k].id⟩) := by
 unfold az4; rw [List.getElem?_eq_getElem hi]; dsimp only; rw [List.getElem?_eq_getElem hk]
theorem axg (l : List Qu) (r : List Rf) : aoe (az4 l r) l = ab8 l r := by
 unfold aoe ab8
 refine List.ext_getElem (by simp) (fun i h1 h2 => ?_)
 have hi : i < l.length := by simpa using h1
 rw [List.getElem_mapIdx, zq]
 congr 1
 refine List.ext_getElem (by simp) (fun k h3 h4 => ?_)
 have hk : k < l[i].zw.length := by simpa using h3
 rw [List.getElem_mapIdx, zq, amo hi hk]
 by_cases h : 0 < aa8 r ⟨l[i].name, l[i].zw[k].id⟩
 ·rw [qw h, qp h]; rfl
 ·rw [qk h, qg h]; rfl
def f3 (l : List Qu) (r : List Rf) (i k j a b : Nat) : Bool := if a < i ∨ a = i ∧ b < k then az4 l r a b else if a = i ∧ b = k then az4 l (r.take j) a b else false
def Mk3 (l : List Qu) (r : List Rf) (i k j : Nat) (Q : List QuT) : Prop := Q.map QuT.q = aoe (f3 l r i k j) l
theorem amp (l : List Qu) (i k : Nat) : az4 l [] i k = false := by
 unfold az4; split; rfl; split; rfl; simp [adb]
theorem Mk3.zero {l : List Qu} {r : List Rf} {Q : List QuT} (h : Q.map QuT.q = l) : Mk3 l r 0 0 0 Q := by
 unfold Mk3; rw [aru]; exact h
 intro i hi k hk
 unfold f3; rw [qk (by omega)]; split
 ·exact amp _ _ _
 ·rfl
theorem Mk3.to {l : List Qu} {r : List Rf} {i k j i' k' j' : Nat} {Q : List QuT} (h : Mk3 l r i k j Q) (he : ∀ a (ha : a < l.length) b, b < l[a].zw.length → f3 l r i k j a b = f3 l r i' k' j' a b) : Mk3 l r i' k' j' Q := by
 unfold Mk3 at h ⊢; rw [h]; exact ahr he
theorem Mk3.row {l : List Qu} {r : List Rf} {i k : Nat} {Q : List QuT} (h : Mk3 l r i k r.length Q) : Mk3 l r i (k + 1) 0 Q := h.to (fun a ha b hb => by
 unfold f3; rw [js]
 by_cases h1 : a < i ∨ a = i ∧ b < k
 ·rw [qw h1, qw (by omega)]
 ·by_cases h2 : a = i ∧ b = k
  ·rw [qk h1, qw h2, qw (by omega)]
  ·rw [qk h1, qk h2, qk (by omega)]; split
   ·exact (amp _ _ _).symm
   ·rfl)
theorem Mk3.queue {l : List Qu} {r : List Rf} {i k : Nat} {Q : List QuT} (h : Mk3 l r i k 0 Q) (hi : i < l.length) (hk : k = l[i].zw.length) : Mk3 l r (i + 1) 0 0 Q := h.to (fun a ha b hb => by
 unfold f3
 by_cases h1 : a < i ∨ a = i ∧ b < k
 ·rw [qw h1, qw (by omega)]
 ·have h3 : ¬ a = i := fun e => by subst e; omega
  rw [qk h1, qk (by omega), qk (by omega)]; split
  ·exact (amp _ _ _).symm
  ·rfl)
theorem Mk3.all {l : List Qu} {r : List Rf} {Q : List QuT} (h : Mk3 l r l.length 0 0 Q) : Q.map QuT.q = ab8 l r := by
 rw [← axg]; unfold Mk3 at h; rw [h]
 exact ahr (fun a ha b hb => by unfold f3; rw [qw (by omega)])
theorem Mk3.skip {l : List Qu} {r : List Rf} {i k j : Nat} {Q : List QuT} (h : Mk3 l r i k j Q) (hi : i < l.length) (hk : k < l[i].zw.length) (hj : j < r.length) (hne : acz r[j] ⟨l[i].name, l[i].zw[k].id⟩ = false) : Mk3 l r i k (j + 1) Q := h.to (fun a ha b hb => by
 unfold f3
 split
 ·rfl
 ·split
  ·rename_i e; obtain ⟨rfl, rfl⟩ := e
   rw [amo hi hk, amo hi hk, jx hj, aa6, acw, adb, hne]; simp
  ·rfl)
theorem Mk3.places {l : List Qu} {r : List Rf} {i k j : Nat} {Q : List QuT} (h : Mk3 l r i k j Q) : ∃ hl : Q.length = l.length, ∀ a (ha : a < Q.length), Q[a].name = l[a].name ∧ ∃ hm : Q[a].zw.length = l[a].zw.length, ∀ b (hb : b < Q[a].zw.length), Q[a].zw[b].id = l[a].zw[b].id := by
 have hl : Q.length = l.length := by have := congrArg List.length h; simpa [aoe] using this
 refine ⟨hl, fun a ha => ?_⟩
 have e : (Q.map QuT.q)[a]'(by simpa using ha) = (aoe (f3 l r i k j) l)[a]'(by simp [aoe]; omega) := by congr 1
 unfold aoe at e
 rw [zq, List.getElem_mapIdx] at e
 have e1 : Q[a].name = l[a].name := congrArg Qu.name e
 have e2 := congrArg Qu.zw e
 have e2 : Q[a].zw.map MsT.m = l[a].zw.mapIdx _ := e2
 have hm : Q[a].zw.length = l[a].zw.length := by have := congrArg List.length e2; simpa using this
 refine ⟨e1, hm, fun b hb => ?_⟩
 have e3 : (Q[a].zw.map MsT.m)[b]'(by simpa using hb) = (l[a].zw.mapIdx (fun c m => if f3 l r i k j a c = true then m.mark else m))[b]'(by simp; omega) := by congr 1
 rw [zq, List.getElem_mapIdx] at e3
 have e4 := congrArg Ms.id e3
 have e4 : Q[a].zw[b].id = _ := e4
 rw [e4]; split <;> rfl
theorem Mk3.hit {l : List Qu} {r : List Rf} {i k j : Nat} {Q : List QuT} (h : Mk3 l r i k j Q) (hi : i < l.length) (hk : k < l[i].zw.length) (hj : j < r.length) (he : acz r[j] ⟨l[i].name, l[i].zw[k].id⟩ = true) : Mk3 l r i k (j + 1) (aeu Q i k) := by
 obtain ⟨hl, hp⟩ := h.places
 have hiQ : i < Q.length := by omega
 obtain ⟨-, hm, -⟩ := hp i hiQ
 have hkQ : k < Q[i].zw.length := by omega
 rw [ag7 hiQ hkQ]
 unfold Mk3 at h ⊢
 have hg : ∀ a (ha : a < Q.length) (ha' : a < l.length), Q[a].q = ⟨l[a].name, l[a].limit, l[a].zw.mapIdx (fun b m => if f3 l r i k j a b = true then m.mark else m)⟩ := fun a ha ha' => by
  have e : (Q.map QuT.q)[a]'(by simpa using ha) = (aoe (f3 l r i k j) l)[a]'(by simp [aoe]; omega) := by congr 1
  unfold aoe at e; rw [zq, List.getElem_mapIdx] at e; exact e
 have hf : ∀ a b, ¬ (a = i ∧ b = k) → f3 l r i k (j + 1) a b = f3 l r i k j a b := fun a b hn => by unfold f3; rw [qk hn, qk hn]
 have hf1 : f3 l r i k (j + 1) i k = true := by
  unfold f3; rw [qk (by omega), qw ⟨rfl, rfl⟩, amo hi hk, jx hj, aa6, acw, adb, he]; simp
 unfold aoe
 refine List.ext_getElem (by simp; omega) (fun a h1 h2 => ?_)
 have ha : a < l.length := by simpa using h2
 rw [zq, List.getElem_set, List.getElem_mapIdx]
 by_cases e : i = a
 ·subst e
  rw [qw rfl]; have e0 := hg i hiQ hi; have e1 : Q[i].name = l[i].name := congrArg Qu.name e0; have e2 : Q[i].limit = l[i].limit := congrArg Qu.limit e0; have e3 : Q[i].zw.map MsT.m = _ := congrArg Qu.zw e0; unfold QuT.q; dsimp only at e3 ⊢; rw [e1, e2, List.map_set, e3]; congr 1; refine List.ext_getElem (by simp) (fun b h3 h4 => ?_); have hb : b < l[i].zw.length := by simpa using h4
  rw [List.getElem_set, List.getElem_mapIdx, List.getElem_mapIdx]; by_cases e4 : k = b
  ·subst e4
   rw [qw rfl, hf1, qw rfl]; have e5 : (Q[i].zw.map MsT.m)[k]'(by simpa using hkQ) = (l[i].zw.mapIdx (fun c m => if f3 l r i k j i c = true then m.mark else m))[k]'(by simp; omega) := by congr 1
   rw [zq, List.getElem_mapIdx] at e5; rw [MsT.mark_m, e5]; split <;> rfl
  ·rw [qk e4, hf i b (fun q => e4 q.2.symm)]
 ·rw [qk e, hg a (by omega) ha]
  congr 1; refine List.ext_getElem (by simp) (fun b h3 h4 => ?_); rw [List.getElem_mapIdx, List.getElem_mapIdx, hf a b (fun q => e q.1.symm)]
theorem axh (qs : List QuT) (m1 m2 : Nat) : (aeu qs m1 m2).map QuT.mv = qs.map QuT.mv := by
 unfold aeu
 split
 ·split
  ·apply List.ext_getElem (by simp)
   intro a h1 h2; rw [zq, zq, List.getElem_set]; split
   ·rename_i e; subst e; rfl
   ·rfl
  ·rfl
 ·rfl
theorem StOw.mark {B : Nat} {w : World} {t : StT} (h : StOw B w t) {k : Nat} (hk : k < t.qs.length) {g n c : Nat} (hv : t.qs[k].mv = .slice (some ⟨g, 0, none⟩) n c) {j : Nat} (hj : j < t.qs[k].zw.length) :
 StOw B (w.setCell ⟨g, j * 11 + 3, none⟩ (.bool true)) { t with qs := t.qs.set k { t.qs[k] with zw := t.qs[k].zw.set j t.qs[k].zw[j].mark } } := by
 have hmem := qy hk
 have hmb : t.qs[k].mv.ownBlock = some g := by rw [hv]; rfl
 have hmm0 := h.m _ hmem
 have hU : Upd (fun i => i = g) w (w.setCell ⟨g, j * 11 + 3, none⟩ (.bool true)) := Upd.set (S := fun i => i = g) rfl _
 have hmk : ∀ i, t.qs[k].mv.ownBlock = some i → Mut t.mv i := fun i e => by
  unfold StT.mv; simp only [aab, abd]; exact .inr (.inr (.inr (.inl ⟨_, jw hmem, e⟩)))
 have hM' : ∀ i, Mut (StT.mv { t with qs := t.qs.set k { t.qs[k] with zw := t.qs[k].zw.set j t.qs[k].zw[j].mark } }) i → Mut t.mv i := fun i hM => by
  unfold StT.mv at hM ⊢; simp only [aab, abd] at hM ⊢; rcases hM with e | e | e | e | e
  ·exact .inl e
  ·exact .inr (.inl e)
  ·exact .inr (.inr (.inl e))
  ·obtain ⟨v, hv, e⟩ := e
   obtain ⟨q, hq, rfl⟩ := jv.1 hv; rcases jd hq with hq | rfl
   ·exact .inr (.inr (.inr (.inl ⟨_, jw hq, e⟩)))
   ·exact .inr (.inr (.inr (.inl ⟨_, jw hmem, e⟩)))
  ·exact .inr (.inr (.inr (.inr e)))
 have hfar : ∀ v : VT, Rd (fun i => B ≤ i ∧ ¬ Mut t.mv i) w v → Rd (fun i => B ≤ i ∧ ¬ Mut (StT.mv { t with qs := t.qs.set k { t.qs[k] with zw := t.qs[k].zw.set j t.qs[k].zw[j].mark } }) i) (w.setCell ⟨g, j * 11 + 3, none⟩ (.bool true)) v := fun v hv =>
  (hv.upd hU (fun i hi e => hi.2 (hmk i (by rw [hmb, show i = g from e])))).weaken (fun i _ hi => ⟨hi.1, fun hM => hi.2 (hM' i hM)⟩)
 have hoth : ∀ {α : Type} {e n : Nat} {enc : α → List Value} {v : Value} {L : List α}, e ≠ 60 → Own B e n enc w v L → Own B e n enc (w.setCell ⟨g, j * 11 + 3, none⟩ (.bool true)) v L := fun h2 ho =>
  ho.upd hU (fun i hi e => aaz ho hmm0 h2 hi (by rw [show i = g from e]; exact hmb))
 have hpw := List.pairwise_iff_getElem.1 h.md
 have hdis : ∀ i, (hi : i < t.qs.length) → i ≠ k → t.qs[i].mv.ownBlock ≠ some g := fun i hi hne e1 => by
  rcases Nat.lt_or_ge i k with q | q
  ·exact hpw i k hi hk q g e1 hmb
  ·exact hpw k i hk hi (by omega) g hmb e1
 have hset := (hv ▸ hmm0).set aac j hj 3 (.bool true) t.qs[k].zw[j].mark (by omega) rfl
 have hqe : Own B 51 3 aar (w.setCell ⟨g, j * 11 + 3, none⟩ (.bool true)) t.qv (t.qs.set k { t.qs[k] with zw := t.qs[k].zw.set j t.qs[k].zw[j].mark }) := by
  exact alr
 refine ⟨hqe, hoth (by decide) h.b, hoth (by decide) h.h, fun q hq => ?_, fun b hb => hoth (by decide) (h.p b hb), fun b hb => hoth (by decide) (h.tk b hb), ?_, h.pd, fun q hq x hx' => ?_, fun b hb x hx' => hfar _ (h.rb b hb x hx'), ⟨h.wf.n, fun q hq => ?_, fun q hq => ?_, h.wf.bx, h.wf.pi, h.wf.ti, h.wf.hx⟩⟩
 ·obtain ⟨i, hi, rfl⟩ := List.getElem_of_mem hq
  rw [List.length_set] at hi; rw [List.getElem_set]; split
  ·rename_i e
   show Own B _ 11 abl _ t.qs[k].mv _
   rw [hv]; exact hset
  ·rename_i hne
   exact (h.m _ (qy hi)).upd hU (fun a ha e => hdis i hi (fun e => hne e.symm) (by rw [ha, show a = g from e]))
 ·exact aj0
 ·exact aj1
 ·exact ahq
 ·exact aj2
def aj3 (qs : List QuT) (m1 m2 : Nat) (v : Value) : List QuT := if h : m1 < qs.length then qs.set m1 { qs[m1] with mv := v, zw := qs[m1].zw.eraseIdx m2 } else qs
theorem aio {qs : List QuT} {m1 m2 : Nat} {v : Value} (h1 : m1 < qs.length) : aj3 qs m1 m2 v = qs.set m1 { qs[m1] with mv := v, zw := qs[m1].zw.eraseIdx m2 } := by
 unfold aj3; rw [dif_pos h1]
theorem auo (qs : List QuT) (m1 m2 : Nat) (v : Value) : (aj3 qs m1 m2 v).length = qs.length := by
 unfold aj3; split
 ·rw [List.length_set]
 ·rfl
theorem axi {qs : List QuT} {r : Rf} {m1 m2 : Nat} {v : Value} (hok : QsOk qs) (h1 : m1 < qs.length) (h2 : m2 < qs[m1].zw.length) (hn : qs[m1].name = r.q) (hid : qs[m1].zw[m2].id = r.id) : ad9 (qs.map QuT.q) r = (aj3 qs m1 m2 v).map QuT.q := by
 rw [aio h1]
 refine amj hok.rq h1 hn _ ?_
 have hr := hok.rm _ (qy h1)
 rw [at0, ← ajp adn (ad6 (c := ad8) (k := Ms.id) (g := MsT.m) |>.2 hr) (by simpa using h2) (x := r.id) (by rw [zq]; exact hid)]
theorem QsOk.taken {qs : List QuT} {m1 m2 : Nat} {v : Value} (hok : QsOk qs) (h1 : m1 < qs.length) : QsOk (aj3 qs m1 m2 v) := by
 rw [aio h1]
 refine ⟨ain (adk h1 rfl) hok.rq, fun q hq => ?_, by rw [List.length_set]; exact hok.lq, fun q hq => ?_⟩
 ·rcases jd hq with hq | rfl
  ·exact hok.rm q hq
  ·have h := hok.rm _ (qy h1)
   exact List.Pairwise.sublist (List.eraseIdx_sublist _ _) h
 ·rcases jd hq with hq | rfl
  ·exact hok.lm q hq
  ·exact jk (List.eraseIdx_sublist _ _).length_le (hok.lm _ (qy h1))
theorem aup {qs : List Qu} {r s : Rf} (h : hasM qs s = true) (hne : s ≠ r) : hasM (ad9 qs r) s = true :=
 ajm h (fun hq l ⟨m, hm, e⟩ => ⟨m, List.mem_filter.2 ⟨hm, qp (fun e2 => hne (by
  obtain ⟨a, b⟩ := s; obtain ⟨c, d⟩ := r; have h1 : a = c := hq; have h2 : b = d := e.symm.trans e2
  rw [h1, h2]))⟩, e⟩)
def axj (qs : List QuT) (i : Nat) (v : Value) (x : MsT) : List QuT := if h : i < qs.length then qs.set i { qs[i] with mv := v, zw := qs[i].zw ++ [x] } else qs
theorem amq {qs : List QuT} {i : Nat} {v : Value} {x : MsT} (h : i < qs.length) : axj qs i v x = qs.set i { qs[i] with mv := v, zw := qs[i].zw ++ [x] } := by
 unfold axj; rw [dif_pos h]
theorem az5 {nx : Int} {qv bv hv v : Value} {qs : List QuT} {zk : List BrT} {hs : List He} {p : Pt} {x : MsT} {i : Nat} (hr : RisK abf QuT.name qs) (h : i < qs.length) (hn : qs[i].name = p.q) (hx : x.m = ⟨p.id, p.pr, p.body⟩) :
 aod (StT.mk nx qv bv hv qs zk hs).s p = (StT.mk (p.id + 1) qv bv hv (axj qs i v x) zk hs).s := by
 rw [amq h]
 unfold aod StT.s
 dsimp only
 rw [amj hr h hn _ (v := v) (L := qs[i].zw ++ [x]) (by rw [List.map_append, List.map_singleton, hx])]
structure QsN (qs Q : List QuT) (k : Nat) : Prop where
 nm : Q.map QuT.name = qs.map QuT.name
 lm : ∀ q ∈ Q, q.zw.length ≤ 1000000 + k
theorem QsN.len {qs Q : List QuT} {k : Nat} (h : QsN qs Q k) : Q.length = qs.length := by
 have := congrArg List.length h.nm
 rwa [jf, jf] at this
theorem QsN.ris {qs Q : List QuT} {k : Nat} (h : QsN qs Q k) (hr : RisK abf QuT.name qs) : RisK abf QuT.name Q := ain h.nm hr
theorem QsN.hit {qs Q : List QuT} {k : Nat} (h : QsN qs Q k) {n : ByteArray} (hq : ad0 (qs.map QuT.q) n = true) : acv abf QuT.name Q n = true := by
 rw [← anm, adr cmpB_ok] at hq
 refine (adr cmpB_ok).2 ?_
 obtain ⟨q, hq, e⟩ := hq
 have hm : n ∈ Q.map QuT.name := by rw [h.nm, ← e]; exact jw hq
 obtain ⟨p, hp, e⟩ := jv.1 hm
 exact ⟨p, hp, e⟩
theorem QsN.put {qs Q : List QuT} {k i : Nat} {v : Value} {x : MsT} (h : QsN qs Q k) (hi : i < Q.length) : QsN qs (axj Q i v x) (k + 1) := by
 rw [amq hi]
 refine ⟨by rw [adk hi (x := { Q[i] with mv := v, zw := Q[i].zw ++ [x] }) rfl]; exact h.nm, fun q hq => ?_⟩
 rcases jd hq with hq | rfl
 ·exact Nat.le_succ_of_le (h.lm q hq)
 ·show (_ ++ [x]).length ≤ _
  rw [jz]; exact Nat.add_le_add_right (h.lm _ (qy hi)) 1
theorem apl (qs : List Qu) (r : Rf) : (ad9 qs r).map Qu.name = qs.map Qu.name := by
 unfold ad9 amb
 rw [List.map_map]
 congr 1
 funext q
 exact ae6 q _ _
theorem aj4 : ∀ (l : List Rf) (qs : List Qu), (l.foldl ad9 qs).map Qu.name = qs.map Qu.name
 | [], _ => rfl
 | r :: l, qs => (aj4 l _).trans (apl qs r)
theorem QsN.of {qs Q : List QuT} {l : List Rf} (hQ : Q.map QuT.q = l.foldl ad9 (qs.map QuT.q)) (hk : QsOk Q) : QsN qs Q 0 := by
 refine ⟨?_, hk.lm⟩
 have h := congrArg (List.map Qu.name) hQ
 rw [aj4, List.map_map, List.map_map] at h
 exact h
theorem az6 {nx nx' : Int} {qv bv hv v : Value} {Q : List QuT} {zk : List BrT} {hs : List He} {i : Nat} {x : MsT} (h1 : i < Q.length) {k : Nat} (hM : Mut (StT.mk nx' qv bv hv (axj Q i v x) zk hs).mv k) : Mut (StT.mk nx qv bv hv Q zk hs).mv k ∨ v.ownBlock = some k := by
 rw [amq h1] at hM
 unfold StT.mv at hM ⊢
 simp only [aab, abd] at hM ⊢
 rcases hM with e | e | e | e | e
 ·exact .inl (.inl e)
 ·exact .inl (.inr (.inl e))
 ·exact .inl (.inr (.inr (.inl e)))
 ·obtain ⟨u, hu, e⟩ := e
  obtain ⟨q, hq, rfl⟩ := jv.1 hu; rcases jd hq with hq | rfl
  ·exact .inl (.inr (.inr (.inr (.inl ⟨_, jw hq, e⟩))))
  ·exact .inr e
 ·exact .inl (.inr (.inr (.inr (.inr e))))
theorem aj5 {P : Prop} (h : P := by
 unfold StT.mv at hM
 simp only [aab, abd] at hM
 rcases hM with e | e | e | ⟨u, hu, e⟩ | ⟨u, hu, e⟩
 ·exact h.q.ge e
 ·exact h.b.ge e
 ·exact h.h.ge e
 ·obtain ⟨q, hq, rfl⟩ := jv.1 hu; exact (h.mm q hq).ge e
 ·obtain ⟨q, hq, rfl⟩ := jv.1 hu; exact (h.p q hq).ge e) : P := h
theorem MkS.mutB {B m : Nat} {ex : Value} {w : World} {t : StT} (h : MkS B m ex w t) {i : Nat} (hM : Mut t.mv i) : B ≤ i := by
 exact aj5
theorem MkS.mutL {B m : Nat} {ex : Value} {w : World} {t : StT} (h : MkS B m ex w t) {i : Nat} (hM : Mut t.mv i) : i < w.heap.size := by
 unfold StT.mv at hM
 simp only [aab, abd] at hM
 rcases hM with e | e | e | ⟨u, hu, e⟩ | ⟨u, hu, e⟩
 ·exact h.q.lt e
 ·exact h.b.lt e
 ·exact h.h.lt e
 ·obtain ⟨q, hq, rfl⟩ := jv.1 hu; exact (h.mm q hq).lt e
 ·obtain ⟨q, hq, rfl⟩ := jv.1 hu; exact (h.p q hq).lt e
end Go.Proofs.YtgnaifhmcllnlaaGreatDoor
