/- store.Apply. Conditions: the store's and the entry's sizes; utf8's tables are laid; entry.Check's contract. Written by gen_stAp.py. (Texts joined.) -/
import Derived.Test.YtgnaifhmcllnlaaGreatDoorB10
set_option maxRecDepth 100000
set_option maxHeartbeats 12800000
set_option linter.unusedSimpArgs false
set_option linter.unusedVariables false
namespace Go.Proofs.YtgnaifhmcllnlaaGreatDoor
open Go.RowKit Tryz
theorem StWf.of_s {t t' : StT} (h : StWf t) (e : t'.s = t.s) : StWf t' := by
 have e1 : t'.next = t.next := congrArg St.next e
 have e2 : t'.qs.map QuT.q = t.qs.map QuT.q := congrArg St.qs e
 have e3 : t'.zk.map BrT.b = t.zk.map BrT.b := congrArg St.zk e
 have e4 : t'.hs = t.hs := congrArg St.hs e
 have hq : ∀ x ∈ t'.qs, ∃ y ∈ t.qs, y.q = x.q := fun x hx => by
  have := jw (f := QuT.q) hx; rw [e2] at this; exact jv.1 this
 have hb : ∀ x ∈ t'.zk, ∃ y ∈ t.zk, y.b = x.b := fun x hx => by
  have := jw (f := BrT.b) hx; rw [e3] at this; exact jv.1 this
 refine ⟨by rw [e1]; exact h.n, fun x hx => ?_, fun x hx m hm => ?_, fun x hx => ?_, fun x hx p hp => ?_, fun x hx r hr => ?_, by rw [e4]; exact h.hx⟩
 ·obtain ⟨y, hy, e⟩ := hq x hx
  have : y.limit = x.limit := congrArg Qu.limit e; rw [← this]; exact h.ql y hy
 ·obtain ⟨y, hy, e⟩ := hq x hx
  have : y.zw.map MsT.m = x.zw.map MsT.m := congrArg Qu.zw e; have h1 := jw (f := MsT.m) hm; rw [← this] at h1; obtain ⟨n, hn, e⟩ := jv.1 h1; have : n.id = m.id := congrArg Ms.id e; rw [← this]; exact h.mi y hy n hn
 ·obtain ⟨y, hy, e⟩ := hb x hx
  have : y.x = x.x := congrArg Br.x e; rw [← this]; exact h.bx y hy
 ·obtain ⟨y, hy, e⟩ := hb x hx
  have : y.zu.map PtT.p = x.zu.map PtT.p := congrArg Br.zu e; have h1 := jw (f := PtT.p) hp; rw [← this] at h1; obtain ⟨n, hn, e⟩ := jv.1 h1; have : n.id = p.id := congrArg Pt.id e; rw [← this]; exact h.pi y hy n hn
 ·obtain ⟨y, hy, e⟩ := hb x hx
  have : y.zy = x.zy := congrArg Br.zy e; rw [← this] at hr; exact h.ti y hy r hr
theorem StRd.wf {P : Nat → Prop} {w : World} {t : StT} (h : StRd P w t) : StWf t :=
 ⟨h.n, h.ql, fun q hq => (h.m q hq).wf, fun b hb => ⟨(h.e b hb).wf.x0, (h.e b hb).wf.x1⟩, fun b hb p hp => by
  have := (h.e b hb).wf.p p.p (jw (f := PtT.p) hp)
  exact ⟨this.1, this.2.1⟩, fun b hb r hr => (h.e b hb).wf.t r hr, h.hx⟩
structure OwR (w : World) (nx : Int) (hs : List He) (u : World) (qv bv hv : Value) (qs : List QuT) (zk : List BrT) : Prop where
 a : Blk u w.heap.size [.int .u64 nx, qv, bv, hv]
 r : Blk u (w.heap.size + 1) [.int .u64 0, .slice none 0 0, .slice none 0 0, .slice none 0 0]
 q : Own (w.heap.size + 2) 51 3 aar u qv qs
 b : Own (w.heap.size + 2) 62 5 aa7 u bv zk
 h : Own (w.heap.size + 2) 90 4 adp u hv hs
 B : Below w.heap.size w u
theorem OwR.upd {S : Nat → Prop} {w u u' : World} {nx : Int} {hs : List He} {qv bv hv : Value} {qs : List QuT} {zk : List BrT} (h : OwR w nx hs u qv bv hv qs zk) (hu : Upd S u u') (h0 : ∀ i, S i → w.heap.size + 1 < i) (hq : ∀ k, qv.ownBlock = some k → ¬ S k) (hb : ∀ k, bv.ownBlock = some k → ¬ S k) (hh : ∀ k, hv.ownBlock = some k → ¬ S k) : OwR w nx hs u' qv bv hv qs zk :=
 ⟨h.a.upd hu (fun s => by have := h0 _ s; omega), h.r.upd hu (fun s => by have := h0 _ s; omega), h.q.upd hu hq, h.b.upd hu hb, h.h.upd hu hh, h.B.trans (hu.below h.B.size (fun b s => by have := h0 _ s; omega))⟩
theorem OwR.pure {w u u' : World} {nx : Int} {hs : List He} {qv bv hv : Value} {qs : List QuT} {zk : List BrT} (h : OwR w nx hs u qv bv hv qs zk) (hB : Below u.heap.size u u') : OwR w nx hs u' qv bv hv qs zk :=
 ⟨h.a.pure hB, h.r.pure hB, h.q.pure hB, h.b.pure hB, h.h.pure hB, h.B.trans (hB.mono h.B.size)⟩
theorem au0 (w : World) (t : StT) (P : Nat → Prop) (hR : StRd P w t) (hT : Tb w) (hS : StSm t) (hm0 : ∀ q ∈ t.qs, ∀ m ∈ q.zw, m.pr.p.smallB = true) (hp0 : ∀ b ∈ t.zk, (∀ p ∈ b.zu, p.pr.p.smallB = true) ∧ b.zu.length ≤ 1000000 ∧ b.zy.length ≤ 1000000) :
 Calls prog 29 #[t.arg] w fun e w' => ∃ t' : StT, e = .returned t'.arg ∧ t'.s = t.s ∧ StOw w.heap.size w' t' ∧ Below w.heap.size w w' := by
 have hwf := qq hR.wf
 obtain ⟨nx, qa, qc, ba, bc, ha, hc, qs, zk, hs, rfl, -, -, -⟩ := hR.open
 rw [StT.arg_mk]
 have hRh := qq hR
 have hcq := qq (fun (u : World) (h : Below w.heap.size w u) => aug u (.slice qa qs.length qc) qs (hRh.out.q.pure h) hS.q (fun x _ => aea x))
 have hcb := qq (fun (u : World) (h : Below w.heap.size w u) => auh u (.slice ba zk.length bc) zk (hRh.out.b.pure h) hS.b (fun x _ => aeb x))
 have hch := qq (fun (u : World) (h : Below w.heap.size w u) => aui u (.slice ha hs.length hc) hs (hRh.out.h.pure h) hS.h (fun x _ => anl x))
 have hql : qs.length ≤ 1000000 := hS.q
 have hbl : zk.length ≤ 1000000 := hS.b
 obtain ⟨S0, hS0⟩ := zj ((StT.mk nx (.slice qa qs.length qc) (.slice ba zk.length bc) (.slice ha hs.length hc) qs zk hs).s)
 rw [← hS0]
 have hS0h := qq hS0
 clear hS0
 have hm0 : ∀ q ∈ qs, ∀ m ∈ q.zw, m.pr.p.smallB = true := hm0
 have hp0 : ∀ b ∈ zk, (∀ p ∈ b.zu, p.pr.p.smallB = true) ∧ b.zu.length ≤ 1000000 ∧ b.zy.length ≤ 1000000 := hp0
 have hSh := qq hS; have hmh := qq hm0; have hph := qq hp0; have hTh := qq hT
 clear hR hS hm0 hp0 hT
 go_enter func29, ntmps29
 go_upto_region 1 with fail
 have hA0 := ((qz w.heap.size w).alloc (qj _) (.cells #[.int .u64 nx, .slice qa qs.length qc, .slice ba zk.length bc, .slice ha hs.length hc] 27)).alloc (by simp) (.cells #[.int .u64 0, .slice none 0 0, .slice none 0 0, .slice none 0 0] 27)
 have A0 := (Blk.new w [.int .u64 nx, .slice qa qs.length qc, .slice ba zk.length bc, .slice ha hs.length hc] 27).alloc (.cells #[.int .u64 0, .slice none 0 0, .slice none 0 0, .slice none 0 0] 27)
 have R0 := Blk.newE (w.alloc (.cells #[.int .u64 nx, .slice qa qs.length qc, .slice ba zk.length bc, .slice ha hs.length hc] 27)) [.int .u64 0, .slice none 0 0, .slice none 0 0, .slice none 0 0] 27 (w.heap.size + 1) (by simp)
 have hz0 : w.heap.size + 2 ≤ ((w.alloc (.cells #[.int .u64 nx, .slice qa qs.length qc, .slice ba zk.length bc, .slice ha hs.length hc] 27)).alloc (.cells #[.int .u64 0, .slice none 0 0, .slice none 0 0, .slice none 0 0] 27)).heap.size := by simp
 generalize ((w.alloc (.cells #[.int .u64 nx, .slice qa qs.length qc, .slice ba zk.length bc, .slice ha hs.length hc] 27)).alloc (.cells #[.int .u64 0, .slice none 0 0, .slice none 0 0, .slice none 0 0] 27)) = u0 at hA0 A0 R0 hz0 ⊢
 obtain ⟨a0, a1, a2, a3⟩ := A0.a4
 have af1 := A0.frozen 1; have af2 := A0.frozen 2; have af3 := A0.frozen 3
 have hA0 := aad hA0; have A0 := A0.drew; have R0 := R0.drew; have hz0 : w.heap.size + 2 ≤ u0.drew.heap.size := hz0
 go_cut [] from 8 to 19 (fun wc => ∃ qv bv hv, OwR w nx hs wc qv bv hv qs zk)
 case first =>
  go_region_with (first | (go_at_call 81; (with_reducible refine (hcq.out _ hA0).mono ?_); rintro e u1 ⟨r1, rfl, O1, hC1⟩; obtain ⟨x1, y1, z1, rfl⟩ := O1.shape3; have hA1 := hA0.trans (hC1.mono hA0.size); have A1 := A0.pure hC1; have R1 := R0.pure hC1; have hz1 := jk hz0 hC1.size; (clear a0 a1 a2 a3 af1 af2 af3); obtain ⟨a0, a1, a2, a3⟩ := A1.a4; have af1 := A1.frozen 1; have af2 := A1.frozen 2; have af3 := A1.frozen 3) | (go_at_call 82; (with_reducible refine (hcb.out _ hA1).mono ?_); rintro e u2 ⟨r2, rfl, O2, hC2⟩; obtain ⟨x2, y2, z2, rfl⟩ := O2.shape3; have hA2 := hA1.trans (hC2.mono hA1.size); have A2 := A1.pure hC2; have R2 := R1.pure hC2; have hz2 := jk hz1 hC2.size; (clear a0 a1 a2 a3 af1 af2 af3); obtain ⟨a0, a1, a2, a3⟩ := A2.a4; have af1 := A2.frozen 1; have af2 := A2.frozen 2; have af3 := A2.frozen 3) | (go_at_call 83; (with_reducible refine (hch.out _ hA2).mono ?_); rintro e u3 ⟨r3, rfl, O3, hC3⟩; obtain ⟨x3, y3, z3, rfl⟩ := O3.shape3; have hA3 := hA2.trans (hC3.mono hA2.size); have A3 := A2.pure hC3; have R3 := R2.pure hC3; have hz3 := jk hz2 hC3.size; (clear a0 a1 a2 a3 af1 af2 af3); obtain ⟨a0, a1, a2, a3⟩ := A3.a4; have af1 := A3.frozen 1; have af2 := A3.frozen 2; have af3 := A3.frozen 3))
  all_goals (go_wp2_with fail; go_meet; refine ⟨_, _, _, ((A3.set 1 _).set 2 _).set 3 _, ((R3.other _ _ (by simp)).other _ _ (by simp)).other _ _ (by simp), (((((O1.pure hC2).pure hC3).rebase (fun k e => jk hz0 (((O1.pure hC2).pure hC3).ge e))).low _ _ _ (by omega)).low _ _ _ (by omega)).low _ _ _ (by omega), ((((O2.pure hC3).rebase (fun k e => jk hz1 ((O2.pure hC3).ge e))).low _ _ _ (by omega)).low _ _ _ (by omega)).low _ _ _ (by omega), (((O3.rebase (fun k e => jk hz2 (O3.ge e))).low _ _ _ (by omega)).low _ _ _ (by omega)).low _ _ _ (by omega), ?_⟩; exact hA3.trans ((aba (S := fun k => k = w.heap.size) (aba (S := fun k => k = w.heap.size) (aba (S := fun k => k = w.heap.size) (Upd.refl (fun k => k = w.heap.size) u3) w.heap.size 1 _ rfl) w.heap.size 2 _ rfl) w.heap.size 3 _ rfl).below hA3.size (fun k e => by have e : k = w.heap.size := e; omega)))
 case rest =>
  obtain ⟨qv, bv, hv, X⟩ := hcut; obtain ⟨q2, e2, rfl, -⟩ := (X.q.slc aaf).len; obtain ⟨b2, f2, rfl, -⟩ := (X.b.slc aag).len; obtain ⟨h2, g2, rfl, -⟩ := (X.h.slc adi).len
  have hlo := qq (show ∀ k, Value.ownBlock (.slice q2 qs.length e2) = some k ∨ Value.ownBlock (.slice b2 zk.length f2) = some k ∨ Value.ownBlock (.slice h2 hs.length g2) = some k → k < wc.heap.size from fun k e => by
   rcases e with e | e | e
   ·exact X.q.lt e
   ·exact X.b.lt e
   ·exact X.h.lt e)
  have hwc : w.heap.size + 2 ≤ wc.heap.size := X.r.lt; obtain ⟨a0, a1, a2, a3⟩ := X.a.a4; clear A0 R0 hA0 hz0 hcq hcb hch af1 af2 af3; obtain ⟨lo, hlw⟩ := zj wc.heap.size; rw [← hlw] at hlo hwc; go_wp2; clear a0 a1 a2 a3; go_loopw [3, 4, 23] (fun s3 s4 s23 wr => ∃ (k : Nat) (D : List QuT), k ≤ qs.length ∧ s23 = .int .i64 k ∧ D.length = k ∧ Hid (D.map QuT.q = (qs.take k).map QuT.q) ∧ OwR w nx hs wr (.slice q2 qs.length e2) (.slice b2 zk.length f2) (.slice h2 hs.length g2) (D ++ qs.drop k) zk ∧ Hid (SegQ wr lo D wr.heap.size)) (fun s3 s4 s23 _ => qs.length - (intOf s23).toNat)
  case atStart => exact ⟨0, [], Nat.zero_le _, rfl, rfl, qq (by simp), by simpa using X, qq (Nat.le_of_eq hlw)⟩
  case round =>
   obtain ⟨k, D, hk, rfl, hDl, hDm, Y, hG⟩ := hrel; have hDlh := qq hDl; clear hDl X; by_cases hkt : k < qs.length
   ·have hkti : (k : Int) < (qs.length : Int) := by omega
    have hi : k < (D ++ qs.drop k).length := by rw [jz, List.length_drop, hDlh.out]; omega
    have hgk : (D ++ qs.drop k)[k] = qs[k] := by
     rw [List.getElem_append_right (by rw [hDlh.out]; exact qj _)]; simp [hDlh.out]
    obtain ⟨g, rfl, hg⟩ := abr Y.q hi; have hgl := hlo.out g (.inl rfl); have hmr := hRh.out.m qs[k] (qy hkt); have hsm := hmh.out qs[k] (qy hkt); have hsn := hSh.out.m qs[k] (qy hkt); rcases hx : qs[k] with ⟨name, lim, mv, zw⟩; rw [hx] at hmr hsm hsn hgk; obtain ⟨ma, mc, rfl, -⟩ : ∃ a c, mv = .slice a zw.length c ∧ zw.length ≤ maxLen := hmr.s.len
    have hms : Slc abl 11 w (.slice ma zw.length mc) zw := hmr.s; have hmrd : ∀ m ∈ zw, Rd P w m.pr.app := hmr.r
    have hsm : ∀ m ∈ zw, m.pr.p.smallB = true := hsm
    have hsn : zw.length ≤ 1000000 := hsn; have c0 : wr.cell? ⟨g, k * 3, none⟩ = some (.string name) := Y.q.cell aaf k hi 0 _ (by rw [hgk]; rfl); have c1 : wr.cell? ⟨g, k * 3 + 1, none⟩ = some (.int .u64 lim) := Y.q.cell aaf k hi 1 _ (by rw [hgk]; rfl); have c2 : wr.cell? ⟨g, k * 3 + 2, none⟩ = some (.slice ma zw.length mc) := Y.q.cell aaf k hi 2 _ (by rw [hgk]; rfl); have hlw0 : w.heap.size + 2 ≤ wr.heap.size := Y.r.lt; have hlwr : lo ≤ wr.heap.size := hG.out.le; have hYB := Y.B; have hYh := qq Y; have hxh := qq hx; have hgkh := qq hgk; have hmsh := qq hms; have hmrh := qq hmrd; have hsmh := qq hsm; clear Y hx hgk hms hmrd hsm hmr; go_upto_region 5 with fail; have N0 := Blk.new wr [.string name, .int .u64 lim, .slice ma zw.length mc] 51; have hAl := (qz wr.heap.size wr).alloc (qj _) (.cells #[.string name, .int .u64 lim, .slice ma zw.length mc] 51); have hnl := N0.lt; generalize wr.alloc (.cells #[.string name, .int .u64 lim, .slice ma zw.length mc] 51) = u at N0 hAl hnl ⊢; clear c0 c1 c2; have hBu := hYB.trans (hAl.mono hYB.size); have hcl := qq (auj u (.slice ma zw.length mc) zw (hmsh.out.pure hBu) hsn (fun x _ => ag5 x)); have n2 := N0.at 2 rfl; go_upto_region 6 with (go_at_call 84; (with_reducible refine hcl.out.mono ?_); rintro e w5 ⟨r, rfl, hO, hB5⟩; obtain ⟨ea, en, ec, rfl⟩ := hO.shape3; have N5 := N0.pure hB5; (clear n2); have n2 := N5.at 2 rfl; have nf := N5.frozen 2); obtain rfl : en = zw.length := by obtain ⟨_, _, e, _⟩ := (hO.slc aac).len; injection e
    have N6 : Blk _ wr.heap.size [.string name, .int .u64 lim, .slice ea zw.length ec] := N5.set 2 (.slice ea zw.length ec); have O6 := hO.low wr.heap.size 2 (.slice ea zw.length ec) hnl; have hB6 := (hAl.trans (hB5.mono hAl.size)).trans ((aba (S := fun k => k = wr.heap.size) (Upd.refl (fun k => k = wr.heap.size) w5) wr.heap.size 2 (.slice ea zw.length ec) rfl).below (jk hAl.size hB5.size) (fun b e => by have e : b = wr.heap.size := e; omega)); generalize w5.setCell ⟨wr.heap.size, 2, none⟩ (.slice ea zw.length ec) = w6 at N6 O6 hB6 ⊢; clear N5 N0 n2 nf hO hcl hmsh; have O6h := qq O6; have hul := hAl.size; have n2 := N6.at 2 rfl; go_wp2; clear n2 O6; obtain ⟨lu, hlu⟩ := zj u.heap.size; rw [← hlu] at O6h hul hnl; obtain ⟨wo, rfl⟩ := zj wr; go_loopw [5, 35] (fun s5 s35 wr => ∃ (j : Nat) (E : List MsT), j ≤ zw.length ∧ s35 = .int .i64 j ∧ E.length = j ∧ Hid (E.map MsT.m = (zw.take j).map MsT.m) ∧ Own lu 60 11 abl wr (.slice ea zw.length ec) (E ++ zw.drop j) ∧ Hid (∀ x ∈ E, Rd (fun i => lu ≤ i ∧ Value.ownBlock (.slice ea zw.length ec) ≠ some i) wr x.pr.app) ∧ Upd (fun i => lu ≤ i) w6 wr) (fun s5 s35 _ => zw.length - (intOf s35).toNat)
    case atStart => exact ⟨0, [], Nat.zero_le _, rfl, rfl, qq (by simp), by simpa using O6h.out, qq (fun x hx => by cases hx), Upd.refl _ _⟩
    case round =>
     obtain ⟨j, E, hj, rfl, hEl, hEm, O, hRd, hU⟩ := hrel; have hElh := qq hEl; clear hEl; have hB7 := hB6.trans (hU.below hB6.size (fun b e => by have e : lu ≤ b := e; omega)); have hBw := hYB.trans (hB7.mono hYB.size); have N7 := N6.upd hU (fun e => by have e : lu ≤ wo.heap.size := e; omega); by_cases hjt : j < zw.length
     ·have hjti : (j : Int) < (zw.length : Int) := by omega
      have hi2 : j < (E ++ zw.drop j).length := by rw [jz, List.length_drop, hElh.out]; omega
      have hgj : (E ++ zw.drop j)[j] = zw[j] := by
       rw [List.getElem_append_right (by rw [hElh.out]; exact qj _)]; simp [hElh.out]
      obtain ⟨v, rfl, hv⟩ := abr O hi2; have hvl : v < wr.heap.size := O.lt rfl; have hre := (hmrh.out zw[j] (qy hjt)).lt.pure hBw; have hsm := hsmh.out zw[j] (qy hjt); rcases hx2 : zw[j] with ⟨id, ⟨key, dur, red, mid, tv⟩, body⟩; rw [hx2] at hre hsm hgj; have hre : Rd _ _ tv := hre; obtain ⟨uk, un, us, uka, ukc, ula, ulc, uks, ul, rfl, -⟩ := hre.open; have hown := fun (u : World) (h : Below wr.heap.size wr u) => afa (PT.mk key dur red mid (VT.mk uk un us (.slice uka uks.length ukc) (.slice ula ul.length ulc) uks ul)) _ u (hre.pure h) hsm ((hTh.out.pure hBw).pure h)
      obtain ⟨X, hX⟩ := zz ((PT.mk key dur red mid (VT.mk uk un us (.slice uka uks.length ukc) (.slice ula ul.length ulc) uks ul)).p); rw [PT.arg_mk, hX] at hown; have hownh := qq hown; have hXh := qq hX; have hx2h := qq hx2; have hgjh := qq hgj; have Oh := qq O; have c1 : wr.cell? ⟨v, j * 11 + 1, none⟩ = some (.string key) := Oh.out.cell aac j hi2 1 _ (by rw [hgjh.out]; rfl); have c2 : wr.cell? ⟨v, j * 11 + 2, none⟩ = some (.bool dur) := Oh.out.cell aac j hi2 2 _ (by rw [hgjh.out]; rfl); have c3 : wr.cell? ⟨v, j * 11 + 3, none⟩ = some (.bool red) := Oh.out.cell aac j hi2 3 _ (by rw [hgjh.out]; rfl); have c4 : wr.cell? ⟨v, j * 11 + 4, none⟩ = some (.string mid) := Oh.out.cell aac j hi2 4 _ (by rw [hgjh.out]; rfl); have c5 : wr.cell? ⟨v, j * 11 + 5, none⟩ = some (.int .u8 uk) := Oh.out.cell aac j hi2 5 _ (by rw [hgjh.out]; rfl); have c6 : wr.cell? ⟨v, j * 11 + 6, none⟩ = some (.int .u64 un) := Oh.out.cell aac j hi2 6 _ (by rw [hgjh.out]; rfl); have c7 : wr.cell? ⟨v, j * 11 + 7, none⟩ = some (.string us) := Oh.out.cell aac j hi2 7 _ (by rw [hgjh.out]; rfl); have c8 : wr.cell? ⟨v, j * 11 + 8, none⟩ = some (.slice uka uks.length ukc) := Oh.out.cell aac j hi2 8 _ (by rw [hgjh.out]; rfl); have c9 : wr.cell? ⟨v, j * 11 + 9, none⟩ = some (.slice ula ul.length ulc) := Oh.out.cell aac j hi2 9 _ (by rw [hgjh.out]; rfl); clear hown hX hx2 hgj hre hsm O; go_upto_region 9 with fail; have hnv : wo.heap.size ≠ v := fun e => by omega
      have hb := (Upd.refl (fun k => k = v) wr).drew; refine wp_region_held_drew (S := fun u => Upd (fun k => k = v) wr u) (by kernel_rfl) hb (fun zg => ?_); refine tkH 0 zg ?_; refine tkF 1 zg ?_ (fun v hSw => (N7.upd hSw hnv).at 2 rfl); refine tkH 2 zg ?_; refine tkH 3 zg ?_; refine tkF 4 zg ?_ (fun v hSw => (N7.upd hSw hnv).at 2 rfl); refine tkH 5 zg ?_; refine tkH 6 zg ?_; refine tkH 7 zg ?_; refine aai 8 rfl (fun Kq hKq => ?_); go_simp; refine hKq.out _ _ hb (fun zg => ?_); clear hKq Kq; (try simp only [Act.put, lsT, lsZ, lsS]); refine aai 9 rfl (fun Kq hKq => ?_); go_simp
      (go_at_call 85; (with_reducible refine (hownh.out _ (aad (qz _ _))).mono ?_); rintro e w3 ⟨⟨key2, dur2, red2, mid2, tv2⟩, rfl, ht2, hR3, hB3⟩; have hR3 : Rd _ _ tv2 := hR3; obtain ⟨uk2, un2, us2, uka2, ukc2, ula2, ulc2, uks2, ul2, rfl, -⟩ := hR3.open; rw [PT.arg_mk])
      have ht2 := qq ht2; have hB3 : Below wr.heap.size wr w3 := (aad (qz _ _)).trans hB3; have hR3 : Rd (fun i => wr.heap.size ≤ i) w3 _ := hR3; have O3 := Oh.out.pure hB3; have hb : Upd (fun k => k = v) wr w3 := Upd.of_below hB3; refine hKq.out _ _ hb (fun zg => ?_); clear hKq Kq; (try simp only [Act.put, lsT, lsZ, lsS]); refine tkH 10 zg ?_; refine tkH 11 zg ?_; have g1 := O3.frozen (j * 11 + 1); have g2 := O3.frozen (j * 11 + 2); have g3 := O3.frozen (j * 11 + 3); have g4 := O3.frozen (j * 11 + 4); have g5 := O3.frozen (j * 11 + 5); have g6 := O3.frozen (j * 11 + 6); have g7 := O3.frozen (j * 11 + 7); have g8 := O3.frozen (j * 11 + 8); have g9 := O3.frozen (j * 11 + 9); have d1 := O3.cell aac j hi2 1 _ (by rw [hgjh.out]; rfl); have d2 := O3.cell aac j hi2 2 _ (by rw [hgjh.out]; rfl); have d3 := O3.cell aac j hi2 3 _ (by rw [hgjh.out]; rfl); have d4 := O3.cell aac j hi2 4 _ (by rw [hgjh.out]; rfl); have d5 := O3.cell aac j hi2 5 _ (by rw [hgjh.out]; rfl); have d6 := O3.cell aac j hi2 6 _ (by rw [hgjh.out]; rfl); have d7 := O3.cell aac j hi2 7 _ (by rw [hgjh.out]; rfl); have d8 := O3.cell aac j hi2 8 _ (by rw [hgjh.out]; rfl); have d9 := O3.cell aac j hi2 9 _ (by rw [hgjh.out]; rfl); refine aai 12 rfl (fun Kq hKq => ?_); go_simp; have hb : Upd (fun k => k = v) wr (aam w3 v (j * 11 + 1) [.string key2, .bool dur2, .bool red2, .string mid2, .int .u8 uk2, .int .u64 un2, .string us2, .slice uka2 uks2.length ukc2, .slice ula2 ul2.length ulc2]) := hb.trans (ab6 v [.string key2, .bool dur2, .bool red2, .string mid2, .int .u8 uk2, .int .u64 un2, .string us2, .slice uka2 uks2.length ukc2, .slice ula2 ul2.length ulc2] (j * 11 + 1) w3) (fun _ e _ => e); refine hKq.out _ _ hb (fun zg => ?_); clear hKq Kq; (try simp only [Act.put, lsT, lsZ, lsS]); refine wpAnyH_done (by kernel_rfl) ?_ _; have hset := O3.sets aac j hi2 1 [.string key2, .bool dur2, .bool red2, .string mid2, .int .u8 uk2, .int .u64 un2, .string us2, .slice uka2 uks2.length ukc2, .slice ula2 ul2.length ulc2] (by simp) (MsT.mk id (PT.mk key2 dur2 red2 mid2 (VT.mk uk2 un2 us2 (.slice uka2 uks2.length ukc2) (.slice ula2 ul2.length ulc2) uks2 ul2)) body) (by rw [hgjh.out]; rfl)
      have hsw : (E ++ zw.drop j).set j (MsT.mk id (PT.mk key2 dur2 red2 mid2 (VT.mk uk2 un2 us2 (.slice uka2 uks2.length ukc2) (.slice ula2 ul2.length ulc2) uks2 ul2)) body) = (E ++ [(MsT.mk id (PT.mk key2 dur2 red2 mid2 (VT.mk uk2 un2 us2 (.slice uka2 uks2.length ukc2) (.slice ula2 ul2.length ulc2) uks2 ul2)) body)]) ++ zw.drop (j + 1) := by
       rw [List.set_append_right _ _ (by rw [hElh.out]; exact qj _), hElh.out, Nat.sub_self, List.drop_eq_getElem_cons hjt, List.set_cons_zero, List.append_assoc]; rfl
      rw [hsw] at hset; have hUs := ab6 v [.string key2, .bool dur2, .bool red2, .string mid2, .int .u8 uk2, .int .u64 un2, .string us2, .slice uka2 uks2.length ukc2, .slice ula2 ul2.length ulc2] (j * 11 + 1) w3; have hU4 : Upd (fun i => lu ≤ i) w6 (aam w3 v (j * 11 + 1) [.string key2, .bool dur2, .bool red2, .string mid2, .int .u8 uk2, .int .u64 un2, .string us2, .slice uka2 uks2.length ukc2, .slice ula2 ul2.length ulc2]) := (hU.trans (Upd.of_below hB3) (fun b e _ => e)).trans hUs (fun b e _ => by have e : b = v := e; show lu ≤ b; omega)
      have hRd4 := qq (show ∀ x ∈ E ++ [(MsT.mk id (PT.mk key2 dur2 red2 mid2 (VT.mk uk2 un2 us2 (.slice uka2 uks2.length ukc2) (.slice ula2 ul2.length ulc2) uks2 ul2)) body)], Rd (fun i => lu ≤ i ∧ Value.ownBlock (.slice (some ⟨v, 0, none⟩) zw.length ec) ≠ some i) (aam w3 v (j * 11 + 1) [.string key2, .bool dur2, .bool red2, .string mid2, .int .u8 uk2, .int .u64 un2, .string us2, .slice uka2 uks2.length ukc2, .slice ula2 ul2.length ulc2]) x.pr.app from fun x hx => by
       rcases List.mem_append.1 hx with hx | hx
       ·exact ((hRd.out x hx).pure hB3).upd hUs (fun i hi e => hi.2 (by rw [show i = v from e]; rfl))
       ·rw [jc.1 hx]
        exact (hR3.upd hUs (fun i hi e => by have e : i = v := e; omega)).weaken (fun i _ hi => ⟨by have := hv; omega, fun e => jp (show v = i by simpa [Value.ownBlock] using e) (by omega)⟩))
      have hEm4 := qq (show (E ++ [(MsT.mk id (PT.mk key2 dur2 red2 mid2 (VT.mk uk2 un2 us2 (.slice uka2 uks2.length ukc2) (.slice ula2 ul2.length ulc2) uks2 ul2)) body)]).map MsT.m = (zw.take (j + 1)).map MsT.m by
       rw [List.map_append, hEm.out, jx hjt, List.map_append]; congr 1; rw [List.map_singleton, List.map_singleton, hx2h.out]; unfold MsT.m; dsimp only
       rw [ht2.out, ← hXh.out])
      unfold aam aam aam aam aam aam aam aam aam aam at hset hRd4 hU4; go_wp2; go_roundw
      case rel => exact ⟨j + 1, E ++ [(MsT.mk id (PT.mk key2 dur2 red2 mid2 (VT.mk uk2 un2 us2 (.slice uka2 uks2.length ukc2) (.slice ula2 ul2.length ulc2) uks2 ul2)) body)], by omega, by go_num, by rw [jz, hElh.out]; rfl, hEm4, hset, hRd4, hU4⟩
      case measure => simp [intOf]; omega
     ·obtain rfl : j = zw.length := by omega
      rw [List.drop_length, List.append_nil] at O; rw [js] at hEm; have Y7 := hYh.out.pure hB7; have O7 := O; obtain ⟨a0, a1, a2, a3⟩ := Y7.a.a4; obtain ⟨n0, n1, n2⟩ := N7.a3; have fz0 := Y7.q.frozen (k * 3); have fz1 := Y7.q.frozen (k * 3 + 1); have fz2 := Y7.q.frozen (k * 3 + 2); have d0 : wr.cell? ⟨g, k * 3, none⟩ = some (.string name) := Y7.q.cell aaf k hi 0 _ (by rw [hgkh.out]; rfl); have d1 : wr.cell? ⟨g, k * 3 + 1, none⟩ = some (.int .u64 lim) := Y7.q.cell aaf k hi 1 _ (by rw [hgkh.out]; rfl); have d2 : wr.cell? ⟨g, k * 3 + 2, none⟩ = some (.slice ma zw.length mc) := Y7.q.cell aaf k hi 2 _ (by rw [hgkh.out]; rfl); have Y7h := qq Y7; clear Y7 O; go_wp2; have hset : Own (w.heap.size + 2) 51 3 aar (aam wr g (k * 3) [.string name, .int .u64 lim, .slice ea zw.length ec]) (.slice (some ⟨g, 0, none⟩) qs.length e2) ((D ++ qs.drop k).set k (QuT.mk name lim (.slice ea zw.length ec) E)) := Y7h.out.q.sets aaf k hi 0 [.string name, .int .u64 lim, .slice ea zw.length ec] (by simp) (QuT.mk name lim (.slice ea zw.length ec) E) (by rw [hgkh.out]; rfl)
      have hsw : (D ++ qs.drop k).set k (QuT.mk name lim (.slice ea zw.length ec) E) = (D ++ [(QuT.mk name lim (.slice ea zw.length ec) E)]) ++ qs.drop (k + 1) := by
       exact ajy
      rw [hsw] at hset; have hUs := ab6 g [.string name, .int .u64 lim, .slice ea zw.length ec] (k * 3) wr
      have hYn : OwR w nx hs (aam wr g (k * 3) [.string name, .int .u64 lim, .slice ea zw.length ec]) (.slice (some ⟨g, 0, none⟩) qs.length e2) (.slice b2 zk.length f2) (.slice h2 hs.length g2) ((D ++ [(QuT.mk name lim (.slice ea zw.length ec) E)]) ++ qs.drop (k + 1)) zk :=
       ⟨Y7h.out.a.upd hUs (fun e => by have e : w.heap.size = g := e; omega), Y7h.out.r.upd hUs (fun e => by have e : w.heap.size + 1 = g := e; omega), hset, Y7h.out.b.upd hUs (fun i hi e => aaz Y7h.out.q Y7h.out.b (by decide) (show Value.ownBlock (.slice (some ⟨g, 0, none⟩) qs.length e2) = some i by rw [show i = g from e]; rfl) hi), Y7h.out.h.upd hUs (fun i hi e => aaz Y7h.out.q Y7h.out.h (by decide) (show Value.ownBlock (.slice (some ⟨g, 0, none⟩) qs.length e2) = some i by rw [show i = g from e]; rfl) hi), Y7h.out.B.trans (hUs.below Y7h.out.B.size (fun b e => by have e : b = g := e; omega))⟩
      have hM : MsI (aam wr g (k * 3) [.string name, .int .u64 lim, .slice ea zw.length ec]) wo.heap.size (aam wr g (k * 3) [.string name, .int .u64 lim, .slice ea zw.length ec]).heap.size (.slice ea zw.length ec) E :=
       ⟨(O7.rebase (fun i e => jk hul (O7.ge e))).upd hUs (fun i hi e => by have e : i = g := e; have := O7.ge hi; omega), fun i e => jg (O7.lt e) hUs.size, jk hB7.size hUs.size, fun x hx => ((hRd.out x hx).upd hUs (fun i hi e => by have e : i = g := e; have := hi.1; omega)).lt.weaken (fun i _ hi => ⟨jk hul hi.1.1, hi.2, hi.1.2⟩)⟩
      have hG4 := qq (SegQ.snoc (q := (QuT.mk name lim (.slice ea zw.length ec) E)) ((hG.out.upd (S := fun _ => False) (Upd.of_below hB7) (fun _ _ _ h => h)).upd hUs (fun i h1 _ e => by have e : i = g := e; omega)) hM)
      have hDm4 := qq (show (D ++ [(QuT.mk name lim (.slice ea zw.length ec) E)]).map QuT.q = (qs.take (k + 1)).map QuT.q by
       rw [List.map_append, hDm.out, jx hkt, List.map_append]; congr 1; rw [List.map_singleton, List.map_singleton, hxh.out]; unfold QuT.q; dsimp only
       rw [hEm.out])
      unfold aam aam aam aam at hYn hG4; go_roundw
      case rel => exact ⟨k + 1, D ++ [(QuT.mk name lim (.slice ea zw.length ec) E)], by omega, by go_num, by rw [jz, hDlh.out]; rfl, hDm4, hYn, hG4⟩
      case measure => simp [intOf]; omega
   ·obtain rfl : k = qs.length := by omega
    rw [List.drop_length, List.append_nil] at Y; rw [js] at hDm; obtain ⟨wq, rfl⟩ := zj wr; obtain ⟨a0, a1, a2, a3⟩ := Y.a.a4; have hlm := hG.out.le; obtain ⟨mid, hmid⟩ := zj wq.heap.size; rw [← hmid] at hG hlm; go_wp2; clear a0 a1 a2 a3; go_loopw [6, 7, 60] (fun s6 s7 s60 wr => ∃ (k : Nat) (F : List BrT), k ≤ zk.length ∧ s60 = .int .i64 k ∧ F.length = k ∧ Hid (F.map BrT.b = (zk.take k).map BrT.b) ∧ OwR w nx hs wr (.slice q2 qs.length e2) (.slice b2 zk.length f2) (.slice h2 hs.length g2) D (F ++ zk.drop k) ∧ Hid (SegQ wr lo D mid) ∧ Hid (SegB wr mid F wr.heap.size)) (fun s6 s7 s60 _ => zk.length - (intOf s60).toNat)
    case atStart => exact ⟨0, [], Nat.zero_le _, rfl, rfl, qq (by simp), by simpa using Y, hG, qq (Nat.le_of_eq hmid)⟩
    case round =>
     clear Y hG; obtain ⟨k, F, hk, rfl, hFl, hFm, Y, hG, hG2⟩ := hrel; have hFlh := qq hFl; clear hFl; by_cases hkt : k < zk.length
     ·have hkti : (k : Int) < (zk.length : Int) := by omega
      have hi : k < (F ++ zk.drop k).length := by rw [jz, List.length_drop, hFlh.out]; omega
      have hgk : (F ++ zk.drop k)[k] = zk[k] := by
       rw [List.getElem_append_right (by rw [hFlh.out]; exact qj _)]; simp [hFlh.out]
      obtain ⟨g, rfl, hg⟩ := abr Y.b hi; have hgl := hlo.out g (.inr (.inl rfl)); have hen := hRh.out.e zk[k] (qy hkt); have hpp := hph.out zk[k] (qy hkt); rcases hx : zk[k] with ⟨⟨xf, xg, xb⟩, pv, tv, zu, zy⟩; rw [hx] at hen hpp hgk; obtain ⟨pa, pc, rfl, -⟩ : ∃ a c, pv = .slice a zu.length c ∧ zu.length ≤ maxLen := hen.p.len
      obtain ⟨ta, tc, rfl, -⟩ : ∃ a c, tv = .slice a zy.length c ∧ zy.length ≤ maxLen := hen.s.len
      have hps : Slc aat 12 w (.slice pa zu.length pc) zu := hen.p; have hts : Slc abc 2 w (.slice ta zy.length tc) zy := hen.s; have hpr : ∀ p ∈ zu, Rd P w p.pr.app := hen.r
      obtain ⟨hsm, hpl, htl⟩ : (∀ p ∈ zu, p.pr.p.smallB = true) ∧ zu.length ≤ 1000000 ∧ zy.length ≤ 1000000 := hpp; have c0 : wr.cell? ⟨g, k * 5, none⟩ = some (.int .u32 xf) := Y.b.cell aag k hi 0 _ (by rw [hgk]; rfl); have c1 : wr.cell? ⟨g, k * 5 + 1, none⟩ = some (.string xg) := Y.b.cell aag k hi 1 _ (by rw [hgk]; rfl); have c2 : wr.cell? ⟨g, k * 5 + 2, none⟩ = some (.string xb) := Y.b.cell aag k hi 2 _ (by rw [hgk]; rfl); have c3 : wr.cell? ⟨g, k * 5 + 3, none⟩ = some (.slice pa zu.length pc) := Y.b.cell aag k hi 3 _ (by rw [hgk]; rfl); have c4 : wr.cell? ⟨g, k * 5 + 4, none⟩ = some (.slice ta zy.length tc) := Y.b.cell aag k hi 4 _ (by rw [hgk]; rfl); have hlw0 : w.heap.size + 2 ≤ wr.heap.size := Y.r.lt; have hlwr : mid ≤ wr.heap.size := hG2.out.le; have hYB := Y.B; have hYh := qq Y; have hxh := qq hx; have hgkh := qq hgk; have hpsh := qq hps; have htsh := qq hts; have hprh := qq hpr; have hsmh := qq hsm; clear Y hx hgk hps hts hpr hsm hen; go_upto_region 16 with fail; have N0 := Blk.new wr [.int .u32 xf, .string xg, .string xb, .slice pa zu.length pc, .slice ta zy.length tc] 62; have hAl := (qz wr.heap.size wr).alloc (qj _) (.cells #[.int .u32 xf, .string xg, .string xb, .slice pa zu.length pc, .slice ta zy.length tc] 62); have hnl := N0.lt; generalize wr.alloc (.cells #[.int .u32 xf, .string xg, .string xb, .slice pa zu.length pc, .slice ta zy.length tc] 62) = u at N0 hAl hnl ⊢; clear c0 c1 c2 c3 c4; have hBu := hYB.trans (hAl.mono hYB.size); have hput := qq (fun (z : World) (h : Below u.heap.size u z) => ajz z (.slice pa zu.length pc) zu (fun b => P b ∧ b < w.heap.size) ((hpsh.out.pure hBu).pure h) (fun x hx => ((hprh.out x hx).lt.pure hBu).pure h) (fun i hi => jg hi.2 (jk hBu.size h.size)) hsmh.out ((hTh.out.pure hBu).pure h) hpl); have hclr := qq (fun (z : World) (h : Below u.heap.size u z) => anp z (.slice ta zy.length tc) zy ((htsh.out.pure hBu).pure h) htl (fun x _ => ae8 x)); have Yuh := qq (hYh.out.pure hAl); have hna : w.heap.size ≠ g := fun e => by omega
      have hnb : wr.heap.size ≠ g := fun e => by omega
      have AU := Yuh.out.a; have hb := (Upd.refl (fun k => k = g) u).drew; refine wp_region_held_drew (S := fun z => Upd (fun k => k = g) u z) (by kernel_rfl) hb (fun zg => ?_); refine tkH 0 zg ?_; refine tkF 1 zg ?_ (fun v hSw => (AU.upd hSw hna).at 2 rfl); refine tkH 2 zg ?_; refine tkH 3 zg ?_; refine tkF 4 zg ?_ (fun v hSw => (N0.upd hSw hnb).a3); refine tkH 5 zg ?_; refine tkF 6 zg ?_ (fun v hSw => (N0.upd hSw hnb).at 3 rfl); refine tkH 8 zg ?_; refine tkF 9 zg ?_ (fun v hSw => (N0.upd hSw hnb).at 4 rfl); refine aai 7 rfl (fun Kq hKq => ?_); go_simp
      (go_at_call 86; (with_reducible refine (hput.out _ (aad (qz _ _))).mono ?_); rintro e w3 ⟨v3, puts2, rfl, hpm, hOL, hB3⟩; obtain ⟨pa2, pn2, pc2, rfl⟩ := hOL.o.shape3)
      have hpm := qq hpm; have hB3 : Below u.heap.size u w3 := (aad (qz _ _)).trans hB3; have hOL : OwL 64 12 aat (fun x => x.pr.app) u.heap.size w3 _ puts2 := hOL; have hb : Upd (fun k => k = g) u w3 := Upd.of_below hB3; refine hKq.out _ _ hb (fun zg => ?_); clear hKq Kq; (try simp only [Act.put, lsT, lsZ, lsS]); refine aai 10 rfl (fun Kq hKq => ?_); go_simp
      (go_at_call 87; (with_reducible refine (hclr.out _ hB3).mono ?_); rintro e w4 ⟨r4, rfl, hO4, hB4⟩; obtain ⟨ta2, tn2, tc2, rfl⟩ := hO4.shape3)
      have hBu4 := hB3.trans (hB4.mono hB3.size); have hb : Upd (fun k => k = g) u w4 := Upd.of_below hBu4; have Y4 := Yuh.out.pure hBu4; have hz3 := hB3.size; refine hKq.out _ _ hb (fun zg => ?_); clear hKq Kq; (try simp only [Act.put, lsT, lsZ, lsS]); refine tkH 11 zg ?_; refine tkH 12 zg ?_; have fy0 := Y4.b.frozen (k * 5); have fy1 := Y4.b.frozen (k * 5 + 1); have fy2 := Y4.b.frozen (k * 5 + 2); have fy3 := Y4.b.frozen (k * 5 + 3); have fy4 := Y4.b.frozen (k * 5 + 4); have d0 : w4.cell? ⟨g, k * 5, none⟩ = some (.int .u32 xf) := Y4.b.cell aag k hi 0 _ (by rw [hgkh.out]; rfl); have d1 : w4.cell? ⟨g, k * 5 + 1, none⟩ = some (.string xg) := Y4.b.cell aag k hi 1 _ (by rw [hgkh.out]; rfl); have d2 : w4.cell? ⟨g, k * 5 + 2, none⟩ = some (.string xb) := Y4.b.cell aag k hi 2 _ (by rw [hgkh.out]; rfl); have d3 : w4.cell? ⟨g, k * 5 + 3, none⟩ = some (.slice pa zu.length pc) := Y4.b.cell aag k hi 3 _ (by rw [hgkh.out]; rfl); have d4 : w4.cell? ⟨g, k * 5 + 4, none⟩ = some (.slice ta zy.length tc) := Y4.b.cell aag k hi 4 _ (by rw [hgkh.out]; rfl); have Y4h := qq Y4; clear Y4; refine aai 13 rfl (fun Kq hKq => ?_); go_simp; have hb : Upd (fun k => k = g) u (aam w4 g (k * 5) [.int .u32 xf, .string xg, .string xb, .slice pa2 pn2 pc2, .slice ta2 tn2 tc2]) := hb.trans (ab6 g [.int .u32 xf, .string xg, .string xb, .slice pa2 pn2 pc2, .slice ta2 tn2 tc2] (k * 5) w4) (fun _ e _ => e); refine hKq.out _ _ hb (fun zg => ?_); clear hKq Kq; (try simp only [Act.put, lsT, lsZ, lsS]); refine wpAnyH_done (by kernel_rfl) ?_ _; have hset : Own (w.heap.size + 2) 62 5 aa7 (aam w4 g (k * 5) [.int .u32 xf, .string xg, .string xb, .slice pa2 pn2 pc2, .slice ta2 tn2 tc2]) (.slice (some ⟨g, 0, none⟩) zk.length f2) ((F ++ zk.drop k).set k (BrT.mk (xf, xg, xb) (.slice pa2 pn2 pc2) (.slice ta2 tn2 tc2) puts2 zy)) := Y4h.out.b.sets aag k hi 0 [.int .u32 xf, .string xg, .string xb, .slice pa2 pn2 pc2, .slice ta2 tn2 tc2] (by simp) (BrT.mk (xf, xg, xb) (.slice pa2 pn2 pc2) (.slice ta2 tn2 tc2) puts2 zy) (by rw [hgkh.out]; rfl)
      have hsw : (F ++ zk.drop k).set k (BrT.mk (xf, xg, xb) (.slice pa2 pn2 pc2) (.slice ta2 tn2 tc2) puts2 zy) = (F ++ [(BrT.mk (xf, xg, xb) (.slice pa2 pn2 pc2) (.slice ta2 tn2 tc2) puts2 zy)]) ++ zk.drop (k + 1) := by
       rw [List.set_append_right _ _ (by rw [hFlh.out]; exact qj _), hFlh.out, Nat.sub_self, List.drop_eq_getElem_cons hkt, List.set_cons_zero, List.append_assoc]; rfl
      rw [hsw] at hset; have hUs := ab6 g [.int .u32 xf, .string xg, .string xb, .slice pa2 pn2 pc2, .slice ta2 tn2 tc2] (k * 5) w4; have hB14 := hAl.trans (hBu4.mono hAl.size)
      have hYn : OwR w nx hs (aam w4 g (k * 5) [.int .u32 xf, .string xg, .string xb, .slice pa2 pn2 pc2, .slice ta2 tn2 tc2]) (.slice q2 qs.length e2) (.slice (some ⟨g, 0, none⟩) zk.length f2) (.slice h2 hs.length g2) D ((F ++ [(BrT.mk (xf, xg, xb) (.slice pa2 pn2 pc2) (.slice ta2 tn2 tc2) puts2 zy)]) ++ zk.drop (k + 1)) :=
       ⟨Y4h.out.a.upd hUs hna, Y4h.out.r.upd hUs (fun e => by have e : w.heap.size + 1 = g := e; omega), Y4h.out.q.upd hUs (fun i hi e => aaz Y4h.out.b Y4h.out.q (by decide) (show Value.ownBlock (.slice (some ⟨g, 0, none⟩) zk.length f2) = some i by rw [show i = g from e]; rfl) hi), hset, Y4h.out.h.upd hUs (fun i hi e => aaz Y4h.out.b Y4h.out.h (by decide) (show Value.ownBlock (.slice (some ⟨g, 0, none⟩) zk.length f2) = some i by rw [show i = g from e]; rfl) hi), Y4h.out.B.trans (hUs.below Y4h.out.B.size (fun b e => by have e : b = g := e; omega))⟩
      have hul := hAl.size; have OP := hOL.o.pure hB4
      have hM : PtI (aam w4 g (k * 5) [.int .u32 xf, .string xg, .string xb, .slice pa2 pn2 pc2, .slice ta2 tn2 tc2]) wr.heap.size (aam w4 g (k * 5) [.int .u32 xf, .string xg, .string xb, .slice pa2 pn2 pc2, .slice ta2 tn2 tc2]).heap.size (.slice pa2 pn2 pc2) puts2 :=
       ⟨(OP.rebase (fun i e => jk hul (OP.ge e))).upd hUs (fun i hi e => by have e : i = g := e; have := OP.ge hi; omega), fun i e => jg (OP.lt e) hUs.size, jk hB14.size hUs.size, fun x hx => (((hOL.r x hx).pure hB4).upd hUs (fun i hi e => by have e : i = g := e; have := hi.1; omega)).lt.weaken (fun i _ hi => ⟨jk hul hi.1.1, hi.2, hi.1.2⟩)⟩
      have hG24 := qq (SegB.snoc (q := (BrT.mk (xf, xg, xb) (.slice pa2 pn2 pc2) (.slice ta2 tn2 tc2) puts2 zy)) ((hG2.out.upd (S := fun _ => False) (Upd.of_below hB14) (fun _ _ _ h => h)).upd hUs (fun i h1 _ e => by have e : i = g := e; omega)) hM ((hO4.rebase (fun i e => by have := hO4.ge e; omega)).upd hUs (fun i hi e => by have e : i = g := e; have := hO4.ge hi; omega)) (fun i e => jg (hO4.lt e) hUs.size)); have hG4 := qq ((hG.out.upd (S := fun _ => False) (Upd.of_below hB14) (fun _ _ _ h => h)).upd hUs (fun i h1 _ e => by have e : i = g := e; omega))
      have hFm4 := qq (show (F ++ [(BrT.mk (xf, xg, xb) (.slice pa2 pn2 pc2) (.slice ta2 tn2 tc2) puts2 zy)]).map BrT.b = (zk.take (k + 1)).map BrT.b by
       rw [List.map_append, hFm.out, jx hkt, List.map_append]; congr 1; rw [List.map_singleton, List.map_singleton, hxh.out]; unfold BrT.b; dsimp only
       rw [hpm.out])
      unfold aam aam aam aam aam aam at hYn hG4 hG24; go_wp2; go_roundw
      case rel => exact ⟨k + 1, F ++ [(BrT.mk (xf, xg, xb) (.slice pa2 pn2 pc2) (.slice ta2 tn2 tc2) puts2 zy)], by omega, by go_num, by rw [jz, hFlh.out]; rfl, hFm4, hYn, hG4, hG24⟩
      case measure => simp [intOf]; omega
     ·obtain rfl : k = zk.length := by omega
      rw [List.drop_length, List.append_nil] at Y; rw [js] at hFm; obtain ⟨a0, a1, a2, a3⟩ := Y.a.a4; obtain ⟨r0, r1, r2, r3⟩ := Y.r.a4; obtain ⟨f0z, f1z, f2z, f3z⟩ := Y.r.f4; have Yh := qq Y; have hsz := Y.r.lt; clear Y; go_wp2; have hU := Upd.ent4 wr (w.heap.size + 1) (.int .u64 nx) (.slice q2 qs.length e2) (.slice b2 zk.length f2) (.slice h2 hs.length g2); have K := Yh.out.r.ent4 (.int .u64 nx) (.slice q2 qs.length e2) (.slice b2 zk.length f2) (.slice h2 hs.length g2); unfold ent4 at hU K; obtain ⟨k0, k1, k2, k3⟩ := K.a4; refine bodyPost_ret (by simp [results, Tryz.results29, go_sem, k0, k1, k2, k3]; rfl) rfl ?_
      have hs' : (StT.mk nx (.slice q2 qs.length e2) (.slice b2 zk.length f2) (.slice h2 hs.length g2) D F hs).s = S0 := by
       rw [hS0h.out]; unfold StT.s; dsimp only; rw [hDm.out, hFm.out]
      refine ⟨StT.mk nx (.slice q2 qs.length e2) (.slice b2 zk.length f2) (.slice h2 hs.length g2) D F hs, rfl, hs', StOw.mk' (B1 := w.heap.size + 2) (lo := lo) (mid := mid) (hi := wr.heap.size) (Yh.out.q.upd hU (fun i hi e => by have e : i = w.heap.size + 1 := e; have := Yh.out.q.ge hi; omega)) (Yh.out.b.upd hU (fun i hi e => by have e : i = w.heap.size + 1 := e; have := Yh.out.b.ge hi; omega)) (Yh.out.h.upd hU (fun i hi e => by have e : i = w.heap.size + 1 := e; have := Yh.out.h.ge hi; omega)) hlo.out (hG.out.upd hU (fun i h1 _ e => by have e : i = w.heap.size + 1 := e; omega)) (hG2.out.upd hU (fun i h1 _ e => by have e : i = w.heap.size + 1 := e; omega)) (by omega) (by omega) (hwf.out.of_s (by rw [hs', hS0h.out])), Yh.out.B.trans (hU.below Yh.out.B.size (fun b e => by have e : b = w.heap.size + 1 := e; omega))⟩
open Go.RowKit Go.ChangeMaps Go.MapKept Tryz
theorem au1 (w : World) (v : Value) : (Instr.typeAssert (.iface 41 v) 20 41 false).run prog w = .ok v w := by kernel_rfl
abbrev OutS (b : Nat) : Nat → Prop := fun k => k = b ∨ k = b + 1
theorem au2 (w : World) (b : Nat) :
 CallsD prog 28 #[.pointer (some ⟨b, 0, none⟩), .pointer (some ⟨b + 1, 0, none⟩)] .returning w fun e u' w' => e = .returned (.tuple #[]) ∧ u' = .returning ∧ w' = w := by
 refine callsD_of_wpS func28 rfl fun c₀ cs hu => ?_
 show Code.wpS prog _ _ { tmps := #[.pointer (some ⟨b, 0, none⟩), .pointer (some ⟨b + 1, 0, none⟩), undef, undef, undef, undef, undef, undef, undef], defers := [] } _ _
 apply wpS_seq
 apply wpS_region
 simp [wpOpsS, go_sem, recoverD, hu, Exit.thenS]
 refine wpS_of_wp ?_
 go_wp2
 cases c₀
 simp_all [bodyPostS, results, Tryz.results28]
theorem aky (w : World) (b : Nat) (e : Int) (v0 v1 v2 v3 v4 : Value) (h1 : Blk w b [v0, v1, v2, v3]) (h2 : Blk w (b + 1) [v4]) :
 CallsD prog 28 #[.pointer (some ⟨b, 0, none⟩), .pointer (some ⟨b + 1, 0, none⟩)] (.panicking [{ v := .iface 41 (.int .i64 e), recovered := false }]) w fun r u' w' => r = .returned (.tuple #[]) ∧ u' = .panicking [{ v := .iface 41 (.int .i64 e), recovered := true }] ∧ Blk w' b [.int .u64 0, .slice none 0 0, .slice none 0 0, .slice none 0 0] ∧ Blk w' (b + 1) [.int .i64 e] ∧ Upd (OutS b) w w' := by
 obtain ⟨c0, c1, c2, c3⟩ := h1.a4; have c4 := h2.at 0 rfl
 obtain ⟨f0, f1, f2, f3⟩ := h1.f4; have f4 := h2.frozen 0
 refine callsD_of_wpS func28 rfl fun c₀ cs hu => ?_
 show Code.wpS prog _ _ { tmps := #[.pointer (some ⟨b, 0, none⟩), .pointer (some ⟨b + 1, 0, none⟩), undef, undef, undef, undef, undef, undef, undef], defers := [] } _ _
 apply wpS_seq
 apply wpS_region
 simp [wpOpsS, go_sem, recoverD, hu, Exit.thenS]
 refine wpS_of_wp ?_
 have hta := au1
 go_wp2
 go_region
 go_wp2
 have t0 := ((((h1.set 0 (.int .u64 0)).set 1 (.slice none 0 0)).set 2 (.slice none 0 0)).set 3 (.slice none 0 0)).other ⟨b + 1, 0, none⟩ (.int .i64 e) (by simp only; omega)
 have t1 := ((((h2.other ⟨b, 0, none⟩ (.int .u64 0) (by simp only; omega)).other ⟨b, 1, none⟩ (.slice none 0 0) (by simp only; omega)).other ⟨b, 2, none⟩ (.slice none 0 0) (by simp only; omega)).other ⟨b, 3, none⟩ (.slice none 0 0) (by simp only; omega)).set 0 (.int .i64 e)
 refine ⟨rfl, _, rfl, _, results_none rfl _ _ _, rfl, rfl, t0, t1, ?_⟩
 refine Upd.drew ?_
 exact ((((Upd.set (S := OutS b) (p := ⟨b, 0, none⟩) (Or.inl rfl) _).trans (Upd.set (S := OutS b) (p := ⟨b, 1, none⟩) (Or.inl rfl) _) (fun _ h _ => h)).trans (Upd.set (S := OutS b) (p := ⟨b, 2, none⟩) (Or.inl rfl) _) (fun _ h _ => h)).trans (Upd.set (S := OutS b) (p := ⟨b, 3, none⟩) (Or.inl rfl) _) (fun _ h _ => h)).trans (Upd.set (S := OutS b) (p := ⟨b + 1, 0, none⟩) (Or.inr rfl) _) (fun _ h _ => h)
def bdq (i : Int) : Prop := 0 ≤ i ∧ i ≤ 255
theorem au3 : MapT prog 83 5 82 (fun i : Int => .int .u8 i) (fun i => .int .u8 i) bdq (fun v : Value => v) some .nilFunc where
 ht := underlying83
 K := Maps.int_keyed underlying5
 hkey := fun x hx => Maps.keyOf_int_mk underlying5 (WalkArith.wf_u8 hx)
 inj := fun x y _ _ h => by injection h
 de := fun y => rfl
 ed := fun v y h => by injection h
 hz := fun w => by kernel_rfl
abbrev FnM (w : World) (b : Nat) (h : Int → Option Value) (n : Nat) : Prop := MapG prog 5 (fun i : Int => .int .u8 i) bdq some w b h n
theorem au4 {n : Nat} (h : n ≤ 100) : n < maxLen := by unfold maxLen; omega
theorem ahb {w : World} {b n : Nat} {h : Int → Option Value} (M : FnM w b h n) (hn : n ≤ 100) (u : Int) (hu : bdq u) (y : Value) : ∃ w', (Instr.mapUpdate 83 (.map (some b)) (.int .u8 u) y).run prog w = .ok () w' ∧ (∃ n', n' ≤ n + 1 ∧ FnM w' b (fun i => if i = u then some y else h i) n') ∧ Upd (fun i => i = b) w w' := by
 obtain ⟨w', h1, h2, h3⟩ := M.put_run au3 (au4 hn) hu y
 refine ⟨w', h1, ⟨_, ?_, h2⟩, Upd.grown (S := fun i => i = b) h3 (fun k e => (Option.some.inj e).symm)⟩
 split <;> omega
theorem MkS.ow {B m : Nat} {w : World} {t : StT} (h : MkS B m (.slice none 0 0) w t) : StOw B w t :=
 ⟨h.q, h.b, h.h, h.mm, h.p, h.tk, h.md, h.pd, fun q hq x hx => (h.ra q hq x hx).weaken (fun i _ hi => ⟨hi.1, fun hm => hi.2.2 (aab.2 (.inr hm))⟩), fun b hb x hx => (h.rb b hb x hx).weaken (fun i _ hi => ⟨hi.1, fun hm => hi.2.2 (aab.2 (.inr hm))⟩), h.wf⟩
theorem StOw.upd {B : Nat} {S : Nat → Prop} {w w' : World} {t : StT} (h : StOw B w t) (hU : Upd S w w') (hS : ∀ i, S i → i < B) : StOw B w' t :=
 ⟨h.q.upd hU (fun i e hi => by have := h.q.ge e; have := hS i hi; omega), h.b.upd hU (fun i e hi => by have := h.b.ge e; have := hS i hi; omega), h.h.upd hU (fun i e hi => by have := h.h.ge e; have := hS i hi; omega), fun q hq => (h.m q hq).upd hU (fun i e hi => by have := (h.m q hq).ge e; have := hS i hi; omega), fun b hb => (h.p b hb).upd hU (fun i e hi => by have := (h.p b hb).ge e; have := hS i hi; omega), fun b hb => (h.tk b hb).upd hU (fun i e hi => by have := (h.tk b hb).ge e; have := hS i hi; omega), h.md, h.pd,
  fun q hq x hx => (h.ra q hq x hx).upd hU (fun i hi e => by have := hS i e; have := hi.1; omega), fun b hb x hx => (h.rb b hb x hx).upd hU (fun i hi e => by have := hS i e; have := hi.1; omega), h.wf⟩
theorem StOw.base {B B' : Nat} {w : World} {t : StT} (h : StOw B w t) (hB : B' ≤ B) : StOw B' w t :=
 ⟨h.q.rebase (fun k e => jk hB (h.q.ge e)), h.b.rebase (fun k e => jk hB (h.b.ge e)), h.h.rebase (fun k e => jk hB (h.h.ge e)), fun q hq => (h.m q hq).rebase (fun k e => jk hB ((h.m q hq).ge e)), fun b hb => (h.p b hb).rebase (fun k e => jk hB ((h.p b hb).ge e)), fun b hb => (h.tk b hb).rebase (fun k e => jk hB ((h.tk b hb).ge e)), h.md, h.pd,
  fun q hq x hx => (h.ra q hq x hx).weaken (fun i _ hi => ⟨jk hB hi.1, hi.2⟩), fun b hb x hx => (h.rb b hb x hx).weaken (fun i _ hi => ⟨jk hB hi.1, hi.2⟩), h.wf⟩
def StT.zero : StT := ⟨0, .slice none 0 0, .slice none 0 0, .slice none 0 0, [], [], []⟩
theorem StOw.zero (B : Nat) (w : World) : StOw B w StT.zero :=
 ⟨Own.nil, Own.nil, Own.nil, fun q hq => (by cases hq), fun q hq => (by cases hq), fun q hq => (by cases hq), List.Pairwise.nil, List.Pairwise.nil, fun q hq => (by cases hq), fun q hq => (by cases hq), ⟨⟨by show (0 : Int) ≤ 0; omega, by show (0 : Int) < _; omega⟩, fun q hq => (by cases hq), fun q hq => (by cases hq), fun q hq => (by cases hq), fun q hq => (by cases hq), fun q hq => (by cases hq), fun q hq => (by cases hq)⟩⟩
structure MkSt (B : Nat) (T0 : StT) (l : List Rf) (S0 : List Qu) (i k j : Nat) (w : World) (Q : List QuT) : Prop where
 o : StOw B w { T0 with qs := Q }
 m : Mk3 S0 l i k j Q
 v : Q.map QuT.mv = T0.qs.map QuT.mv
section
variable {B : Nat} {T0 : StT} {l : List Rf} {S0 : List Qu} {i k j : Nat} {w w' : World} {Q : List QuT}
theorem MkSt.to {i' k' j' : Nat} (h : MkSt B T0 l S0 i k j w Q) (h2 : Mk3 S0 l i' k' j' Q) : MkSt B T0 l S0 i' k' j' w Q := ⟨h.o, h2, h.v⟩
theorem MkSt.len (h : MkSt B T0 l S0 i k j w Q) : Q.length = S0.length := h.m.places.1
theorem MkSt.row (h : MkSt B T0 l S0 i k j w Q) {qa : Option Addr} {qn qc : Nat} (hq : T0.qv = .slice qa qn qc) {a : Nat} (ha : a < S0.length) :
 ∃ gq ma mc, qa = some ⟨gq, 0, none⟩ ∧ (T0.qs.map QuT.mv)[a]? = some (.slice ma S0[a].zw.length mc) := by
 have haQ : a < Q.length := by rw [h.len]; exact ha
 obtain ⟨hl, hp⟩ := h.m.places
 obtain ⟨-, hm, -⟩ := hp a haQ
 have ho : Own B 51 3 aar w T0.qv Q := h.o.q
 rw [hq] at ho
 obtain ⟨gq, hgq, -⟩ := abr ho haQ
 have hmm : Own B 60 11 abl w Q[a].mv Q[a].zw := h.o.m _ (qy haQ)
 obtain ⟨ma, mc, hmv, -⟩ : ∃ a' c, Q[a].mv = .slice a' Q[a].zw.length c ∧ Q[a].zw.length ≤ maxLen := (hmm.slc aac).len
 refine ⟨gq, ma, mc, hgq, ?_⟩
 rw [← h.v, List.getElem?_map, List.getElem?_eq_getElem haQ, ← hm, ← hmv]; rfl
theorem MkSt.mv (h : MkSt B T0 l S0 i k j w Q) {a : Nat} (haQ : a < Q.length) {v : Value} (hv : (T0.qs.map QuT.mv)[a]? = some v) : Q[a].mv = v := by
 rw [← h.v, List.getElem?_map, List.getElem?_eq_getElem haQ] at hv; injection hv
theorem MkSt.cells (h : MkSt B T0 l S0 i k j w Q) {gq qn qc : Nat} (hq : T0.qv = .slice (some ⟨gq, 0, none⟩) qn qc) {a : Nat} (ha : a < S0.length) {ma : Option Addr} {ml mc : Nat} (hv : (T0.qs.map QuT.mv)[a]? = some (.slice ma ml mc)) :
 w.cell? ⟨gq, a * 3, none⟩ = some (.string S0[a].name) ∧ w.cell? ⟨gq, a * 3 + 2, none⟩ = some (.slice ma ml mc) := by
 have haQ : a < Q.length := by rw [h.len]; exact ha
 obtain ⟨hl, hp⟩ := h.m.places
 have ho : Own B 51 3 aar w T0.qv Q := h.o.q
 rw [hq] at ho
 refine ⟨?_, ho.cell aaf a haQ 2 _ (by show some (one Q[a].mv) = _; rw [h.mv haQ hv]; rfl)⟩
 rw [← (hp a haQ).1]
 exact ho.cell aaf a haQ 0 _ rfl
theorem MkSt.msg (h : MkSt B T0 l S0 i k j w Q) {a b : Nat} (ha : a < S0.length) (hb : b < S0[a].zw.length) {ma : Option Addr} {ml mc : Nat} (hv : (T0.qs.map QuT.mv)[a]? = some (.slice ma ml mc)) : ∃ gm, ma = some ⟨gm, 0, none⟩ ∧ B ≤ gm := by
 have haQ : a < Q.length := by rw [h.len]; exact ha
 obtain ⟨hl, hp⟩ := h.m.places
 obtain ⟨-, hm, -⟩ := hp a haQ
 have hmm : Own B 60 11 abl w Q[a].mv Q[a].zw := h.o.m _ (qy haQ)
 rw [h.mv haQ hv] at hmm
 exact abr hmm (by rw [hm]; exact hb)
theorem MkSt.mcells (h : MkSt B T0 l S0 i k j w Q) {a b : Nat} (ha : a < S0.length) (hb : b < S0[a].zw.length) {gm ml mc : Nat} (hv : (T0.qs.map QuT.mv)[a]? = some (.slice (some ⟨gm, 0, none⟩) ml mc)) :
 w.cell? ⟨gm, b * 11, none⟩ = some (.int .u64 S0[a].zw[b].id) ∧ (∃ r, w.cell? ⟨gm, b * 11 + 1 + 2, none⟩ = some (.bool r)) ∧ w.frozen? ⟨gm, b * 11 + 1 + 2, none⟩ = false := by
 have haQ : a < Q.length := by rw [h.len]; exact ha
 obtain ⟨hl, hp⟩ := h.m.places
 obtain ⟨-, hm, hid⟩ := hp a haQ
 have hbQ : b < Q[a].zw.length := by rw [hm]; exact hb
 have hmm : Own B 60 11 abl w Q[a].mv Q[a].zw := h.o.m _ (qy haQ)
 rw [h.mv haQ hv] at hmm
 refine ⟨?_, ⟨_, Own.cell aac hmm b hbQ 3 _ rfl⟩, Own.frozen hmm (b * 11 + 3)⟩
 rw [← hid b hbQ]
 exact Own.cell aac hmm b hbQ 0 _ rfl
theorem MkSt.hit (h : MkSt B T0 l S0 i k j w Q) (hi : i < S0.length) (hk : k < S0[i].zw.length) (hj : j < l.length) (he : acz l[j] ⟨S0[i].name, S0[i].zw[k].id⟩ = true) {gm ml mc : Nat} (hv : (T0.qs.map QuT.mv)[i]? = some (.slice (some ⟨gm, 0, none⟩) ml mc)) :
 MkSt B T0 l S0 i k (j + 1) (w.setCell ⟨gm, k * 11 + 1 + 2, none⟩ (.bool true)) (aeu Q i k) := by
 have hiQ : i < Q.length := by rw [h.len]; exact hi
 obtain ⟨hl, hp⟩ := h.m.places
 obtain ⟨-, hm, -⟩ := hp i hiQ
 have hkQ : k < Q[i].zw.length := by rw [hm]; exact hk
 have h1 := h.o.mark (k := i) hiQ (h.mv hiQ hv) hkQ
 refine ⟨?_, h.m.hit hi hk hj he, by rw [axh]; exact h.v⟩
 rw [ag7 hiQ hkQ]
 exact h1
theorem MkSt.pure (h : MkSt B T0 l S0 i k j w Q) (hB : Below w.heap.size w w') : MkSt B T0 l S0 i k j w' Q :=
 ⟨h.o.upd (Upd.of_below (S := fun _ => False) hB) (fun i e => e.elim), h.m, h.v⟩
end
theorem MkSt.start {B : Nat} {w : World} {t : StT} {l : List Rf} (h : StOw B w t) : MkSt B t l (t.qs.map QuT.q) 0 0 0 w t.qs := ⟨h, Mk3.zero rfl, rfl⟩
theorem StOw.rd {B : Nat} {w : World} {t : StT} (h : StOw B w t) : StRd (fun i => B ≤ i) w t :=
 ⟨h.q.slc aaf, fun k e _ => h.q.ge e, fun q hq => ⟨(h.m q hq).slc aac, fun k e _ => (h.m q hq).ge e, fun x hx => (h.ra q hq x hx).weaken (fun i _ hi => hi.1), h.wf.mi q hq⟩,
  h.b.slc aag, fun k e _ => h.b.ge e, fun b hb => ⟨(h.p b hb).slc aae, fun k e _ => (h.p b hb).ge e, fun x hx => (h.rb b hb x hx).weaken (fun i _ hi => hi.1), (h.tk b hb).slc aa9, fun k e _ => (h.tk b hb).ge e,
   ⟨by show (0 : Int) ≤ 4; omega, by show (4 : Int) < 256; omega, by show (0 : Int) ≤ 0; omega, by show (0 : Int) < _; omega, (h.wf.bx b hb).1, (h.wf.bx b hb).2, fun p hp => by
    obtain ⟨y, hy, rfl⟩ := jv.1 hp
    exact ⟨(h.wf.pi b hb y hy).1, (h.wf.pi b hb y hy).2, (h.rb b hb y hy).wf⟩, h.wf.ti b hb⟩⟩,
  h.h.slc adi, fun k e _ => h.h.ge e, h.wf.n, h.wf.ql, h.wf.hx⟩
theorem az9 {α : Type} {R : α → α → Prop} {L : List α} (h : L.Pairwise R) (i : Nat) {x : α} (hx : ∀ a ∈ L, R a x ∧ R x a) : (abj L i x).Pairwise R := by
 unfold abj
 have hm : ∀ a, a ∈ L.take i ∨ a ∈ L.drop i → a ∈ L := fun a ha => ha.elim List.mem_of_mem_take List.mem_of_mem_drop
 rw [← List.take_append_drop i L] at h
 obtain ⟨h1, h2, h3⟩ := List.pairwise_append.1 h
 refine List.pairwise_append.2 ⟨h1, List.pairwise_cons.2 ⟨fun b hb => (hx b (hm b (.inr hb))).2, h2⟩, fun p hp q hq => ?_⟩
 rcases List.mem_cons.1 hq with rfl | hq
 ·exact (hx p (hm p (.inl hp))).1
 ·exact h3 p hp q hq
theorem MkS.insB {B m : Nat} {w0 w w1 : World} {t : StT} (h0 : MkS B m (.slice none 0 0) w0 t) (hB : Below w0.heap.size w0 w) (hBw : B ≤ w0.heap.size) (i : Nat) {b : BrT} {r : Value} (hO : Own B 62 5 aa7 w1 r (abj t.zk i b)) (hu : Upd (fun k => t.bv.ownBlock = some k) w w1) (hr : ∀ k, r.ownBlock = some k → t.bv.ownBlock = some k ∨ w.heap.size ≤ k)
 (hp : OwL 64 12 aat (fun x => x.pr.app) w0.heap.size w b.pv b.zu) (htk : Own w0.heap.size 68 2 abc w b.tv b.zy)
 (hbx : 0 ≤ b.x.1 ∧ b.x.1 < 4294967296) (hpi : ∀ p ∈ b.zu, 0 ≤ p.id ∧ p.id < 18446744073709551616) (hti : ∀ r ∈ b.zy, 0 ≤ r.id ∧ r.id < 18446744073709551616) :
 MkS B m (.slice none 0 0) (w1.setCell ⟨m, 2, none⟩ r) { t with bv := r, zk := abj t.zk i b } := by
 have h := h0.pure hB
 have hm : t.bv.ownBlock ≠ some m := abm h.b h.a (by decide)
 have ha1 : BlkT w1 m [.int .u64 t.next, t.qv, t.bv, t.hv] 81 := h.a.upd hu hm
 have hU : Upd (fun k => t.bv.ownBlock = some k ∨ k = m) w (w1.setCell ⟨m, 2, none⟩ r) := (hu.mono (fun i e _ => .inl e)).trans (Upd.set (S := fun k => k = m) rfl r) (fun i e _ => .inr e)
 have hrm : r.ownBlock ≠ some m := abm hO ha1 (by decide)
 have hml : m < w0.heap.size := h0.a.blk.lt
 have hMl : ∀ i, Mut t.mv i → i < w0.heap.size := fun i hM => by
  unfold StT.mv at hM; simp only [aab, abd] at hM; rcases hM with e | e | e | ⟨u, hu, e⟩ | ⟨u, hu, e⟩
  ·exact h0.q.lt e
  ·exact h0.b.lt e
  ·exact h0.h.lt e
  ·obtain ⟨q, hq, rfl⟩ := jv.1 hu; exact (h0.mm q hq).lt e
  ·obtain ⟨q, hq, rfl⟩ := jv.1 hu; exact (h0.p q hq).lt e
 have hbl : ∀ k, t.bv.ownBlock = some k → k < w0.heap.size := fun k e => h0.b.lt e
 have hM' : ∀ j, Mut (Value.slice none 0 0 :: StT.mv { t with bv := r, zk := abj t.zk i b }) j → Mut t.mv j ∨ r.ownBlock = some j ∨ b.pv.ownBlock = some j := fun j hM => by
  unfold StT.mv at hM ⊢; simp only [aab, abd] at hM ⊢; rcases hM with e | e | e | e | e | e
  ·simp [Value.ownBlock] at e
  ·exact .inl (.inl e)
  ·exact .inr (.inl e)
  ·exact .inl (.inr (.inr (.inl e)))
  ·exact .inl (.inr (.inr (.inr (.inl e))))
  ·obtain ⟨v, hv, e⟩ := e
   obtain ⟨x, hx, rfl⟩ := jv.1 hv; rcases ack.1 hx with rfl | hx
   ·exact .inr (.inr e)
   ·exact .inl (.inr (.inr (.inr (.inr ⟨_, jw hx, e⟩))))
 have hbz := hB.size
 have hfar : ∀ v : VT, Rd (Far B m (.slice none 0 0) t) w0 v → Rd (Far B m (.slice none 0 0) { t with bv := r, zk := abj t.zk i b }) (w1.setCell ⟨m, 2, none⟩ r) v := fun v hv =>
  ((hv.lt.pure hB).upd hU (fun j hj e => by
   rcases e with e | e
   ·exact hj.1.2.2 (aab.2 (.inr (aab.2 (.inr (aab.2 (.inl e))))))
   ·exact hj.1.2.1 e)).weaken (fun j _ hj => ⟨hj.1.1, hj.1.2.1, fun hM => by
    rcases hM' j hM with e | e | e
    ·exact hj.1.2.2 (aab.2 (.inr e))
    ·rcases hr j e with e | e
     ·exact hj.1.2.2 (aab.2 (.inr (aab.2 (.inr (aab.2 (.inl e))))))
     ·have := hj.2; omega
    ·have := hp.o.ge e; have := hj.2; omega⟩)
 have hoth : ∀ {α : Type} {e n : Nat} {enc : α → List Value} {v : Value} {L : List α}, e ≠ 62 → e ≠ 81 → Own B e n enc w v L → Own B e n enc (w1.setCell ⟨m, 2, none⟩ r) v L := fun h1 h2 ho =>
  ho.upd hU (fun k hk e => by
   rcases e with e | e
   ·exact aaz ho h.b h1 hk e
   ·exact abm ho h.a h2 (by rw [hk, e]))
 have hpB : Own B 64 12 aat w b.pv b.zu := hp.o.rebase (fun k e => jk hBw (hp.o.ge e))
 have htB : Own B 68 2 abc w b.tv b.zy := htk.rebase (fun k e => jk hBw (htk.ge e))
 refine ⟨ha1.set 2 r, h.mB, hoth (by decide) (by decide) h.q, hO.other _ _ (fun k hk e => hrm (by rw [hk]; exact congrArg some e)), hoth (by decide) (by decide) h.h, fun q hq => hoth (by decide) (by decide) (h.mm q hq), fun x hx => ?_, fun x hx => ?_, h.md, az9 h.pd i (fun a ha => ⟨fun j e1 e2 => ?_, fun j e1 e2 => ?_⟩), fun x _ j _ e => by simp [Value.ownBlock] at e, fun q hq x hx => hfar _ (h0.ra q hq x hx), fun x hx y hy => ?_, ⟨h.wf.n, h.wf.ql, h.wf.mi, fun x hx => ?_, fun x hx => ?_, fun x hx => ?_, h.wf.hx⟩⟩
 ·rcases ack.1 hx with rfl | hx
  ·exact hoth (by decide) (by decide) hpB
  ·exact hoth (by decide) (by decide) (h.p x hx)
 ·rcases ack.1 hx with rfl | hx
  ·exact hoth (by decide) (by decide) htB
  ·exact hoth (by decide) (by decide) (h.tk x hx)
 ·have := (h0.p a ha).lt e1; have := hp.o.ge e2; omega
 ·have := (h0.p a ha).lt e2; have := hp.o.ge e1; omega
 ·rcases ack.1 hx with rfl | hx
  ·refine ((hp.r y hy).lt.upd hU (fun j hj e => ?_)).weaken (fun j _ hj => ⟨?_, ?_, fun hM => ?_⟩)
   ·rcases e with e | e
    ·have := hbl j e; have := hj.1.1; omega
    ·have := hj.1.1; omega
   ·have := hj.1.1; omega
   ·have := hj.1.1; omega
   ·rcases hM' j hM with e | e | e
    ·have := hMl j e; have := hj.1.1; omega
    ·rcases hr j e with e | e
     ·have := hbl j e; have := hj.1.1; omega
     ·have := hj.2; omega
    ·exact hj.1.2 e
  ·exact hfar _ (h0.rb x hx y hy)
 ·rcases ack.1 hx with rfl | hx
  ·exact hbx
  ·exact h.wf.bx x hx
 ·rcases ack.1 hx with rfl | hx
  ·exact hpi
  ·exact h.wf.pi x hx
 ·rcases ack.1 hx with rfl | hx
  ·exact hti
  ·exact h.wf.ti x hx
def afv (base : Nat) (w : World) (v : Value) (L : List BrT) (e : Ending) (w' : World) : Prop := aj6 62 5 base aa7 w v L e w'
theorem akz {base : Nat} (w : World) (v : Value) (L : List BrT) (x : BrT) (vb : Nat) (h : Own base 62 5 aa7 w v L) (hbase : base ≤ w.heap.size) (hL : L.length ≤ 1000000) (hx : Blk w vb (aa7 x)) :
 Calls prog 99 #[v, .int .i64 L.length, .slice (some ⟨vb, 0, none⟩) 1 1] w (afv base w v (L ++ [x])) := by
 have hown := qq h
 obtain ⟨a, cap, rfl, hm⟩ := (h.slc aag).len
 unfold maxLen at hm
 clear h
 have hxc : ∀ j u, (aa7 x)[j]? = some u → w.cell? ⟨vb, j, none⟩ = some u := fun j u hu => (hx.cell j).trans hu
 have hxc' := qq hxc
 clear hxc
 obtain ⟨A, hA⟩ := zz (if cap = L.length then a else Option.map (fun x => x.add (L.length * 5)) a)
 go_enter func99, ntmps99
 go_wp2_with (at_builtin; refine af6 rfl (.tmp 23) (.tmp 24) 24 62 rfl afn aag aeb (.slice a L.length cap) L rfl hown.out vb 1 x rfl hxc'.out (by omega) (by unfold maxLen; omega) hbase ?_; intro g' cap' w2 hO hgr hfr)
 go_ret
 exact aur hO (Upd.grown hgr (fun k hk => hk)) hfr
theorem akf {base : Nat} (w : World) (g cap i : Nat) (L : List BrT) (x : BrT) (vb : Nat) (h : Own base 62 5 aa7 w (.slice (some ⟨g, 0, none⟩) L.length cap) L) (hL : L.length ≤ 1000000) (hi : i < L.length) (hroom : L.length + 1 ≤ cap) (hx : Blk w vb (aa7 x)) (hvb : vb ≠ g) :
 Calls prog 99 #[.slice (some ⟨g, 0, none⟩) L.length cap, .int .i64 i, .slice (some ⟨vb, 0, none⟩) 1 1] w (afv base w (.slice (some ⟨g, 0, none⟩) L.length cap) (L.take i ++ x :: L.drop i)) := by
 have mixed : prog.follows .mixedOrders = true := by kernel_rfl
 obtain ⟨W1, S1, ex, hown, hcp1, hcp2, hU1, hown1, hfin, hcap⟩ := aqo afn aag aeb w g cap i L x vb h hi hroom hx hvb
 have hov : ∀ lb cb, (callFunc 146 #[.slice (some ⟨vb, 0, none⟩) 1 1, .slice (some ⟨g, (i + 1) * 5, none⟩) lb cb]).run prog w = .ok (.value (.bool false)) w := fun lb cb => by
  obtain ⟨TA, hTA⟩ := hx.shape; have hTB := anv hown
  rw [run_callFunc_extern func146 (by kernel_rfl) (by kernel_rfl) (by kernel_rfl) (e := Extern.SlicesOverlaps.overlaps #[24, 24] #[4]) (by kernel_rfl),
   Lib.run_overlaps_apart w 24 4 62 underlying24 5 (fun w => aie afn) ⟨vb, 0, none⟩ ⟨g, (i + 1) * 5, none⟩ 1 1 lb cb hvb _ _ _ _ hTA hTB (by omega) (hx.frozen 0) (hx.frozen _)]
  rfl
 have hfin' := qq hfin; have hown1' := qq hown1; have hU1h := qq hU1
 clear hown1 hfin h hown hU1
 have hb0 : ¬ (cap = i) := by omega
 have hb1 : ¬ (cap = i + 1) := by omega
 have hb2 : ¬ ((i : Int) = (L.length : Int)) := by omega
 have hb3 : (L.length : Int) + 1 ≤ (cap : Int) := by omega
 have hb4 : (0 : Int) ≤ (i : Int) + 1 := by omega
 have hb6 : (i : Int) ≤ (L.length : Int) + 1 := by omega
 have hb5 : (i : Int) + 1 ≤ (L.length : Int) + 1 := by omega
 have hw1 : IntKind.i64.wrap ((i : Int) + 1) = (i : Int) + 1 := IntWalk.i64_in _ (by omega)
 have htn : ((i : Int) + 1).toNat = i + 1 := by omega
 have htl : ((L.length : Int) + 1).toNat = L.length + 1 := by omega
 go_enter func99, ntmps99
 go_wp2_with (simp only [hov])
 have hc1 := qq hcp1
 have hc2 := qq hcp2
 clear hcp1 hcp2
 go_region_law (refine adc rfl (.tmp 73) (.tmp 76) 24 24 rfl _ _ (by simp [Act.eval, Act.put]) (by simp [Act.eval, Act.put]) (hc1.out _ (L.length - i) (cap - (i + 1)) (L.length + 1 - i) (cap - i) (by omega) (by omega)) ?_)
 go_wp2_with (refine acp _ rfl (.tmp 80) (.tmp 81) 24 24 rfl _ _ rfl rfl (hc2.out _ (fun _ => rfl) (fun _ => rfl) _ (L.length + 1 - i) (cap - i) (by omega)) ?_)
 go_ret
 exact ah5 (Nat.le_of_lt hi) hown1'.out hfin'.out hU1h.out
theorem akg {base : Nat} (w : World) (g cap i : Nat) (L : List BrT) (x : BrT) (vb : Nat) (h : Own base 62 5 aa7 w (.slice (some ⟨g, 0, none⟩) L.length cap) L) (hbase : base ≤ w.heap.size) (hL : L.length ≤ 1000000) (hi : i < L.length) (hroom : cap < L.length + 1) (hx : Blk w vb (aa7 x)) :
 Calls prog 99 #[.slice (some ⟨g, 0, none⟩) L.length cap, .int .i64 i, .slice (some ⟨vb, 0, none⟩) 1 1] w (afv base w (.slice (some ⟨g, 0, none⟩) L.length cap) (L.take i ++ x :: L.drop i)) := by
 have mixed : prog.follows .mixedOrders = true := by kernel_rfl
 obtain ⟨capN, W1, W2, S2, hapn, hcp1, hcp2, hB2, hown2, hfin, hcN1, hcN2, hlc⟩ := aqp afn underlying3 (by omega) aag aeb w g cap i L x vb h hbase hL hi hroom hx
 have ha := qq hapn
 have hc1 := qq hcp1
 have hc2 := qq hcp2
 have hfin' := qq hfin
 have hown2' := qq hown2; have hB2h := qq hB2
 unfold maxLen at hcN2
 clear hapn hcp1 hcp2 hfin hown2 h hB2
 have hb0 : ¬ (cap = i) := by omega
 have hb1 : ¬ (capN = i + 1) := by omega
 have hb7 : ¬ (capN = i) := by omega
 have hb2 : ¬ ((i : Int) = (L.length : Int)) := by omega
 have hb3 : (cap : Int) < (L.length : Int) + 1 := by omega
 have hb4 : (0 : Int) ≤ (i : Int) + 1 := by omega
 have hb5 : (i : Int) + 1 ≤ (L.length : Int) + 1 := by omega
 have hb6 : (i : Int) ≤ (L.length : Int) + 1 := by omega
 have hb8 : (i : Int) ≤ (cap : Int) := by omega
 have hb9 : i ≤ L.length := by omega
 have hw1 : IntKind.i64.wrap ((i : Int) + 1) = (i : Int) + 1 := IntWalk.i64_in _ (by omega)
 have htn : ((i : Int) + 1).toNat = i + 1 := by omega
 go_enter func99, ntmps99
 go_wp2_with (first | (at_builtin; refine Lib.wpList_append_run _ rfl (.tmp 34) (.tmp 39) 24 3 rfl _ _ rfl rfl _ _ (ha.out _) ?_) | (refine acp _ rfl (.tmp 43) (.tmp 44) 24 24 rfl _ _ rfl rfl (hc1.out _ (L.length + 1 - i) (capN - i) (by omega)) ?_))
 go_region_law (refine adc rfl (.tmp 50) (.tmp 53) 24 24 rfl _ _ (by simp [Act.eval, Act.put]) (by simp [Act.eval, Act.put]) (hc2.out _ (L.length - i) (capN - (i + 1)) (L.length - i) (cap - i) rfl rfl) ?_)
 go_wp2
 go_ret
 exact ah6 (Nat.le_of_lt hi) hown2'.out hfin'.out hB2h.out
theorem ar0 {base : Nat} (w : World) (v : Value) (i : Nat) (L : List BrT) (x : BrT) (vb : Nat) (h : Own base 62 5 aa7 w v L) (hbase : base ≤ w.heap.size) (hL : L.length ≤ 1000000) (hi : i ≤ L.length) (hx : Blk w vb (aa7 x)) (hvb : v.ownBlock ≠ some vb) :
 Calls prog 99 #[v, .int .i64 i, .slice (some ⟨vb, 0, none⟩) 1 1] w (afv base w v (L.take i ++ x :: L.drop i)) := by
 rcases Nat.lt_or_ge i L.length with h1 | h1
 ·obtain ⟨g, cap, rfl, _, _⟩ := h.shape (fun e => by rw [e] at h1; simp at h1)
  rcases Nat.lt_or_ge cap (L.length + 1) with h2 | h2
  ·exact akg w g cap i L x vb h hbase hL h1 h2 hx
  ·exact akf w g cap i L x vb h hL h1 h2 hx (fun e => hvb (by rw [e]; rfl))
 ·obtain rfl : i = L.length := by omega
  rw [js, List.drop_length]; exact akz w v L x vb h hbase hL hx
theorem akh {P : Prop} (h : P := by
 go_wp2_with (go_at_call 89; (with_reducible refine (acq _ _).mono ?_); rintro e w4 ⟨rfl, rfl⟩)
 rw [hRh.out, qw (by simp)]
 exact ⟨rfl, adt (by decide) hBw3⟩) : P := h
theorem au5 (w : World) (B m : Nat) (nx : Int) (qa : Option Addr) (qc : Nat) (ba : Option Addr) (bc : Nat) (ha : Option Addr) (hc : Nat) (qs : List QuT) (zk : List BrT) (hs : List He) (ek : Int) (en : ByteArray) (ei : Int) (xf : Int) (xg xb : ByteArray) (pa : Option Addr) (pc : Nat) (ta : Option Addr) (tc : Nat) (zu : List PtT) (zy : List Rf) (hM : MkS B m (.slice none 0 0) w (StT.mk nx (.slice qa qs.length qc) (.slice ba zk.length bc) (.slice ha hs.length hc) qs zk hs)) (hBw : B ≤ w.heap.size) (hE : EnRd (fun i => i < B) w (EnT.mk ek en ei (xf, xg, xb) (.slice pa zu.length pc) (.slice ta zy.length tc) zu zy)) (hok : qsB nx (qs.map QuT.q) = true) (hbr : RisK aav BrT.x zk) (hhr : RisK aav He.x hs) (hsm : StSm (StT.mk nx (.slice qa qs.length qc) (.slice ba zk.length bc) (.slice ha hs.length hc) qs zk hs)) (hp : PutsOk zu) (hl : zy.length ≤ 1000000) (hTb : ∀ u, Upd (fun i => B ≤ i) w u → Tb u) :
 Calls prog 33 #[.pointer (some ⟨m, 0, none⟩), .agg #[.int .u8 ek, .string en, .int .u64 ei, .int .u32 xf, .string xg, .string xb, .slice pa zu.length pc, .slice ta zy.length tc]] w (ag9 B m w ((StT.mk nx (.slice qa qs.length qc) (.slice ba zk.length bc) (.slice ha hs.length hc) qs zk hs).s.prep (EnT.mk ek en ei (xf, xg, xb) (.slice pa zu.length pc) (.slice ta zy.length tc) zu zy).e)) := by
 have hE0 := (qz w.heap.size w).alloc (qj _) (.cells #[.int .u8 ek, .string en, .int .u64 ei, .int .u32 xf, .string xg, .string xb, .slice pa zu.length pc, .slice ta zy.length tc] 34)
 have E0 := Blk.new w [.int .u8 ek, .string en, .int .u64 ei, .int .u32 xf, .string xg, .string xb, .slice pa zu.length pc, .slice ta zy.length tc] 34
 have M0 := hM.pure hE0
 have A0 : Blk _ m [.int .u64 nx, .slice qa qs.length qc, .slice ba zk.length bc, .slice ha hs.length hc] := M0.a.blk
 obtain ⟨b1, hb1⟩ := zz (acv aav BrT.x zk (xf, xg, xb))
 obtain ⟨b2, hb2⟩ := zz (acv aav He.x hs (xf, xg, xb))
 obtain ⟨i1, hi1⟩ := zz (lbK aav BrT.x zk (xf, xg, xb))
 obtain ⟨i2, hi2⟩ := zz (lbK aav He.x hs (xf, xg, xb))
 obtain ⟨pq, hpq⟩ := zz ((zu.map PtT.p).all (fun p => ad0 (qs.map QuT.q) p.q))
 obtain ⟨te, hte⟩ := zz (abw (StT.mk nx (.slice qa qs.length qc) (.slice ba zk.length bc) (.slice ha hs.length hc) qs zk hs).s [] zy)
 have hil : i1 ≤ zk.length := by rw [← hi1]; exact aza _ _ _ _
 obtain ⟨R, hR⟩ := zz ((StT.mk nx (.slice qa qs.length qc) (.slice ba zk.length bc) (.slice ha hs.length hc) qs zk hs).s.prep (EnT.mk ek en ei (xf, xg, xb) (.slice pa zu.length pc) (.slice ta zy.length tc) zu zy).e)
 have hRh := qq (show R = if b1 = true ∨ b2 = true then no 8 else if pq = false then no 7 else if te ≠ 0 then no te else ({ (StT.mk nx (.slice qa qs.length qc) (.slice ba zk.length bc) (.slice ha hs.length hc) qs zk hs).s with zk := abj (zk.map BrT.b) i1 ⟨(xf, xg, xb), zu.map PtT.p, zy⟩ }, 0) by
  rw [← hR, ← hb1, ← hb2, ← hpq, ← hte, bbt, bc9, ← hi1]; unfold St.prep
  rw [show lbK aav BrT.x zk (xf, xg, xb) = lbK aav Br.x (zk.map BrT.b) (xf, xg, xb) from (atz aav BrT.b Br.x zk (xf, xg, xb)).symm]; rfl)
 rw [hR]
 have hps : Slc aat 12 w (.slice pa zu.length pc) zu := hE.p
 have hts : Slc abc 2 w (.slice ta zy.length tc) zy := hE.s
 have hpr : ∀ x ∈ zu, Rd (fun i => i < B) w x.pr.app := hE.r
 have hwx : 0 ≤ xf ∧ xf < 4294967296 := ⟨hE.wf.x0, hE.wf.x1⟩
 have hwt : ∀ r ∈ zy, 0 ≤ r.id ∧ r.id < 18446744073709551616 := hE.wf.t
 have hta := qq (fun (v : World) (h : Below w.heap.size w v) => alu v B m (.slice none 0 0) nx qa qc ba bc ha hc qs zk hs ta tc zy (StT.mk nx (.slice qa qs.length qc) (.slice ba zk.length bc) (.slice ha hs.length hc) qs zk hs).s (hM.pure h) rfl hok hsm (hts.pure h) hl)
 rw [hte] at hta
 have hab := qq (fun (v : World) (h : Below w.heap.size w v) => atB v nx qa qs.length qc ba zk.length bc ha hs.length hc zk xf xg xb (hM.pure h).rd.b _ (hM.pure h).rd.e hbr hsm.b)
 have hah := qq (fun (v : World) (h : Below w.heap.size w v) => atH v nx qa qs.length qc ba zk.length bc ha hs.length hc hs xf xg xb (hM.pure h).rd.h hhr hsm.h)
 rw [hi1, hb1] at hab
 rw [hi2, hb2] at hah
 have hop := qq (fun (v : World) (h : Below w.heap.size w v) => ajz v (.slice pa zu.length pc) zu (fun i => i < B) (hps.pure h) (fun x hx => (hpr x hx).pure h) (fun i hi => jg hi (jk hBw h.size)) hp.s (hTb v (Upd.of_below h)) hp.l)
 have htc := qq (fun (v : World) (h : Below w.heap.size w v) => anp v (.slice ta zy.length tc) zy (hts.pure h) hl (fun x _ => ae8 x))
 have hpi : (zu.length : Int) ≤ 1000000 := by have := hp.l; omega
 have hMh := qq hM; have hpqh := qq hpq; have hpsh := qq hps; have hprh := qq hpr; have hokh := qq hok; have hph := qq hp
 have hlqh : Hid (qs.length ≤ 1000000) := qq hsm.q
 have hlbh : Hid (zk.length ≤ 1000000) := qq hsm.b
 have hwxh := qq hwx; have hwth := qq hwt
 clear hM hE hok hbr hhr hsm hp hTb hpq hte hps hts hpr M0 hb1 hb2 hi1 hi2 hR hwx hwt
 go_enter func33, ntmps33
 go_upto_region 1 with fail
 obtain ⟨u, hu⟩ := zj (w.alloc (.cells #[.int .u8 ek, .string en, .int .u64 ei, .int .u32 xf, .string xg, .string xb, .slice pa zu.length pc, .slice ta zy.length tc] 34))
 rw [← hu] at hE0 E0 A0 ⊢
 have hul : w.heap.size < u.heap.size := by rw [hu]; simp
 clear hu
 have hb := aan (qz u.heap.size u)
 refine aal (fun v => Below u.heap.size u v) hb (fun zg => ?_)
 refine tkH 0 zg ?_
 refine tkH 1 zg ?_
 refine tkH 2 zg ?_
 refine tkF 3 zg ?_ (fun v hSw => (A0.pure hSw).a4)
 refine tkH 4 zg ?_
 refine tkF 5 zg ?_ (fun v hSw => have q := E0.pure hSw; And.intro (q.at 3 rfl) (And.intro (q.at 4 rfl) (q.at 5 rfl)))
 refine aai 6 rfl (fun Kq hKq => ?_)
 go_simp
 (go_at_call 52; (with_reducible refine (hab.out _ (hE0.trans (hb.mono hE0.size))).mono ?_); rintro e w2 ⟨rfl, hB2⟩)
 have hb : Below u.heap.size u w2 := hb.trans (hB2.mono hb.size)
 refine hKq.out _ _ hb (fun zg => ?_)
 clear hKq Kq
 (try simp only [Act.put, lsT, lsZ, lsS])
 refine tkH 7 zg ?_
 refine tkH 8 zg ?_
 refine tkH 9 zg ?_
 refine tkH 10 zg ?_
 refine tkH 11 zg ?_
 refine ah9 ?_
 have hBw2 := hE0.trans (hb.mono hE0.size)
 have A2 := A0.pure hb; have E2 := E0.pure hb
 clear hb zg hE0 A0 E0 hab
 go_upto_region 2 with fail
 have hb := aan (qz w2.heap.size w2)
 refine aal (fun v => Below w2.heap.size w2 v) hb (fun zg => ?_)
 refine tkH 0 zg ?_
 refine tkH 1 zg ?_
 refine tkH 2 zg ?_
 refine tkF 3 zg ?_ (fun v hSw => (A2.pure hSw).a4)
 refine tkH 4 zg ?_
 refine tkF 5 zg ?_ (fun v hSw => have q := E2.pure hSw; And.intro (q.at 3 rfl) (And.intro (q.at 4 rfl) (q.at 5 rfl)))
 refine aai 6 rfl (fun Kq hKq => ?_)
 go_simp
 (go_at_call 98; (with_reducible refine (hah.out _ (hBw2.trans (hb.mono hBw2.size))).mono ?_); rintro e w3 ⟨rfl, hB2⟩)
 have hb : Below w2.heap.size w2 w3 := hb.trans (hB2.mono hb.size)
 refine hKq.out _ _ hb (fun zg => ?_)
 clear hKq Kq
 (try simp only [Act.put, lsT, lsZ, lsS])
 refine tkH 7 zg ?_
 refine tkH 8 zg ?_
 refine tkH 9 zg ?_
 refine tkH 10 zg ?_
 refine tkH 11 zg ?_
 refine ah9 ?_
 have hBw3 := hBw2.trans (hb.mono hBw2.size)
 have A3 := A2.pure hb; have E3 := E2.pure hb
 clear hb zg hB2 A2 E2 hah hBw2
 cases b1
 rotate_left 1
 ·exact akh
 cases b2
 rotate_left 1
 ·exact akh
 have e6 := E3.at 6 rfl
 go_wp2_with (go_at_call 89; (with_reducible refine (ab9 _ _).mono ?_); rintro e w4 ⟨rfl, rfl⟩)
 clear e6
 go_loopw [9, 10, 11, 42] (fun s9 s10 s11 s42 wr => ∃ k : Nat, k ≤ zu.length ∧ s42 = .int .i64 k ∧ Hid (∀ p ∈ zu.take k, ad0 (qs.map QuT.q) p.q = true) ∧ Below w3.heap.size w3 wr) (fun s9 s10 s11 s42 _ => zu.length - (intOf s42).toNat)
 case atStart => exact ⟨0, Nat.zero_le _, rfl, qq (fun p hp => by cases hp), qz _ _⟩
 case round =>
  obtain ⟨k, hk, rfl, hall, hB⟩ := hrel; have hBw0 := hBw3.trans (hB.mono hBw3.size); by_cases hkt : k < zu.length
  ·have hkti : (k : Int) < (zu.length : Int) := by omega
   have hSl := hpsh.out.pure hBw0; obtain ⟨g, off, rfl⟩ := hSl.addrB hkt; obtain ⟨q, id, key, dur, red, mid, uk, un, us, uka, ukc, ula, ulc, uks, ul, body, hx, c0, c1, c2, c3, c4, c5, c6, c7, c8, c9, c10, c11⟩ := ad5 hSl hkt ((hprh.out _ (qy hkt)).pure hBw0); obtain ⟨b, hb0⟩ := zz (acv abf QuT.name qs q); obtain ⟨m1, hm1⟩ := zz (lbK abf QuT.name qs q); have hqa := fun (v : World) (h : Below w.heap.size w v) => atQ v nx qa qs.length qc ba zk.length bc ha hs.length hc qs q (hMh.out.pure h).rd.q (fun i => B ≤ i) (hMh.out.pure h).rd.m (awq hokh.out) hlqh.out
   rw [hm1, hb0] at hqa; have hqah := qq hqa; have hxh := qq hx; have hbh := qq (show ad0 (qs.map QuT.q) zu[k].q = b by rw [hx, ← anm]; exact hb0); clear hqa hm1 hb0 hx hSl; go_upto_region 7 with fail; have hAl := (qz wr.heap.size wr).alloc (qj _) (.cells #[.string q, .int .u64 id, .string key, .bool dur, .bool red, .string mid, .int .u8 uk, .int .u64 un, .string us, .slice uka uks.length ukc, .slice ula ul.length ulc, .string body] 64); have E1 := Blk.new wr [.string q, .int .u64 id, .string key, .bool dur, .bool red, .string mid, .int .u8 uk, .int .u64 un, .string us, .slice uka uks.length ukc, .slice ula ul.length ulc, .string body] 64; have hBu := hB.trans (hAl.mono hB.size); have hBu0 := hBw0.trans (hAl.mono hBw0.size); generalize wr.heap.size = nb at E1 ⊢; generalize wr.alloc (.cells #[.string q, .int .u64 id, .string key, .bool dur, .bool red, .string mid, .int .u8 uk, .int .u64 un, .string us, .slice uka uks.length ukc, .slice ula ul.length ulc, .string body] 64) = x at E1 hBu hBu0 ⊢; clear c0 c1 c2 c3 c4 c5 c6 c7 c8 c9 c10 c11 hAl hB hBw0; have A1 := A3.pure hBu; have hb := aan (qz x.heap.size x); refine aal (fun v => Below x.heap.size x v) hb (fun zg => ?_); refine tkH 0 zg ?_; refine tkH 1 zg ?_; refine tkH 2 zg ?_; refine tkF 3 zg ?_ (fun v hSw => (A1.pure hSw).a4); refine tkH 4 zg ?_; refine tkF 5 zg ?_ (fun v hSw => (E1.pure hSw).at 0 rfl); refine aai 6 rfl (fun Kq hKq => ?_); go_simp
   (go_at_call 88; (with_reducible refine (hqah.out _ (hBu0.trans (hb.mono hBu0.size))).mono ?_); rintro e w4 ⟨rfl, hB2⟩)
   have hb : Below x.heap.size x w4 := hb.trans (hB2.mono hb.size); refine hKq.out _ _ hb (fun zg => ?_); clear hKq Kq; (try simp only [Act.put, lsT, lsZ, lsS]); refine tkH 7 zg ?_; refine tkH 8 zg ?_; refine tkH 9 zg ?_; refine tkH 10 zg ?_; refine tkH 11 zg ?_; refine ah9 ?_; have hB3 := hBu.trans (hb.mono hBu.size); have hB30 := hBu0.trans (hb.mono hBu0.size); clear hb zg hB2 hqah hBu hBu0 E1 A1; cases b
   ·have hq7 : pq = false := by
     rw [← hpqh.out, List.all_eq_false]; exact ⟨_, jw (qy hkt), by rw [show ad0 (qs.map QuT.q) zu[k].p.q = false from hbh.out]; simp⟩
    subst hq7; go_wp2_with (go_at_call 89; (with_reducible refine (acq _ _).mono ?_); rintro e w5 ⟨rfl, rfl⟩); rw [hRh.out, qk (by simp), qw (by simp)]; exact ⟨rfl, adt (by decide) hB30⟩
   have hall2 := qq (show ∀ p ∈ zu.take (k + 1), ad0 (qs.map QuT.q) p.q = true by
    intro p hp; rw [jx hkt] at hp; rcases List.mem_append.1 hp with hp | hp
    ·exact hall.out p hp
    ·rw [jc.1 hp]; exact hbh.out)
   go_wp2_with (go_at_call 89; (with_reducible refine (ab9 _ _).mono ?_); rintro e w5 ⟨rfl, rfl⟩); go_roundw
   case rel => exact ⟨k + 1, by omega, by go_num, hall2, hB3⟩
   case measure => simp [intOf]; omega
  ·obtain rfl : k = zu.length := by omega
   have hpq1 : pq = true := by
    rw [← hpqh.out, jt]; intro p hp; obtain ⟨x, hx, rfl⟩ := jv.1 hp; exact hall.out x (by rw [js]; exact hx)
   subst hpq1; have Ew := E3.pure hB; have e5 := Ew.at 7 rfl; obtain ⟨b, hb0⟩ := zz (decide (te = 0)); cases b
   ·have hne : ¬ te = 0 := jq hb0
    have htah := qq (show _ from by have h := hta.out _ hBw0; simp only [qk hne] at h; exact h); have hneh := qq hne; clear hta hb0 hne; go_wp2_with (go_at_call 96; (with_reducible refine htah.out.mono ?_); rintro e w4 ⟨rfl, hB4⟩); rw [hRh.out, qk (by simp), qk (by simp), qw hneh.out]; exact ⟨rfl, adt hneh.out (hBw0.trans (hB4.mono hBw0.size))⟩
   have hz : te = 0 := qt hb0; have htah := qq (show _ from by have h := hta.out _ hBw0; simp only [qw hz] at h; exact h); have hzh := qq hz; clear hta hb0 hz; go_upto_region 11 with (go_at_call 96; (with_reducible refine htah.out.mono ?_); rintro e w4 ⟨rfl, hB4⟩; have hB04 := hBw0.trans (hB4.mono hBw0.size); have Ew4 := Ew.pure hB4; have Aw4 := (A3.pure hB).pure hB4); clear Ew e5 htah; have hbm : Value.ownBlock (.slice ba zk.length bc) ≠ some m := abm hMh.out.b hMh.out.a (by decide); have hbl : ∀ k, Value.ownBlock (.slice ba zk.length bc) = some k → k < w.heap.size := fun k e => hMh.out.b.lt e
   have hEb : ¬ (fun k => Value.ownBlock (.slice ba zk.length bc) = some k) w.heap.size := fun e => by have := hbl _ e; omega
   have hbb := aan (qz w4.heap.size w4); have hM4 := hMh.out.pure hB04; have hb := (Upd.refl (fun k => Value.ownBlock (.slice ba zk.length bc) = some k) w4).drew; refine acb (fun v => Upd (fun k => Value.ownBlock (.slice ba zk.length bc) = some k) w4 v) 21 hb (fun zg => ?_); refine tkU 0 zg ?_; refine tkU 1 zg ?_; refine tkU 2 zg ?_; refine tkU 3 zg ?_; refine tkU 4 zg ?_; refine tkG 5 zg ?_ (fun v hSw => (Aw4.upd hSw hbm).at 2 rfl); refine tkU 6 zg ?_; refine tkU 7 zg ?_; refine tkG 8 zg ?_ (fun v hSw => have q := Ew4.upd hSw hEb; And.intro (q.at 3 rfl) (And.intro (q.at 4 rfl) (q.at 5 rfl))); refine tkU 9 zg ?_; refine tkG 10 zg ?_ (fun v hSw => (Ew4.upd hSw hEb).at 6 rfl); refine tkU 12 zg ?_; refine tkG 13 zg ?_ (fun v hSw => (Ew4.upd hSw hEb).at 7 rfl); refine aiu 11 rfl (fun Kq hKq => ?_); go_simp
   (go_at_call 86; (with_reducible refine (hop.out _ (hB04.trans (hbb.mono hB04.size))).mono ?_); rintro e w5 ⟨pv2, L2, rfl, hL2, hO5, hB5⟩)
   have hL2 := qq hL2; have hO5 : OwL 64 12 aat (fun x => x.pr.app) w4.heap.size w5 pv2 L2 := hO5; obtain ⟨pa2, pn2, pc2, rfl⟩ := hO5.o.shape3; have hbc := hbb.trans (hB5.mono hbb.size); have hb : Upd (fun k => Value.ownBlock (.slice ba zk.length bc) = some k) w4 w5 := Upd.of_below hbc; refine hKq.out _ _ hb (fun zg => ?_); clear hKq Kq; (try simp only [Act.put, lsT, lsZ, lsS]); refine aiu 14 rfl (fun Kq hKq => ?_); go_simp
   (go_at_call 87; (with_reducible refine (htc.out _ (hB04.trans (hbc.mono hB04.size))).mono ?_); rintro e w6 ⟨tv2, rfl, hO6, hB6⟩)
   obtain ⟨ta2, tn2, tc2, rfl⟩ := hO6.shape3; have hbd := hbc.trans (hB6.mono hbc.size); have hb : Upd (fun k => Value.ownBlock (.slice ba zk.length bc) = some k) w4 w6 := Upd.of_below hbd; refine hKq.out _ _ hb (fun zg => ?_); clear hKq Kq; (try simp only [Act.put, lsT, lsZ, lsS]); refine tkU 15 zg ?_; refine aiu 16 rfl (fun Kq hKq => ?_); go_simp; have N := Blk.new w6 [.int .u32 xf, .string xg, .string xb, .slice pa2 pn2 pc2, .slice ta2 tn2 tc2] 62; have hb67 := (qz w6.heap.size w6).alloc (qj _) (.cells #[.int .u32 xf, .string xg, .string xb, .slice pa2 pn2 pc2, .slice ta2 tn2 tc2] 62); have hbe := hbd.trans (hb67.mono hbd.size); have hw7 : (w6.alloc (.cells #[.int .u32 xf, .string xg, .string xb, .slice pa2 pn2 pc2, .slice ta2 tn2 tc2] 62)).heap.size = w6.heap.size + 1 := by simp
   obtain ⟨w7, hw7e⟩ := zj (w6.alloc (.cells #[.int .u32 xf, .string xg, .string xb, .slice pa2 pn2 pc2, .slice ta2 tn2 tc2] 62)); rw [← hw7e] at N hb67 hbe hw7 ⊢; have hw7 := qq hw7; clear hw7e; have hb : Upd (fun k => Value.ownBlock (.slice ba zk.length bc) = some k) w4 w7 := Upd.of_below hbe; refine hKq.out _ _ hb (fun zg => ?_); clear hKq Kq; (try simp only [Act.put, lsT, lsZ, lsS]); refine aiu 17 rfl (fun Kq hKq => ?_); have N : Blk w7 w6.heap.size (aa7 (BrT.mk (xf, xg, xb) (.slice pa2 pn2 pc2) (.slice ta2 tn2 tc2) L2 zy)) := N; have hsz : w4.heap.size ≤ w6.heap.size := hbd.size; have hsz0 : w.heap.size ≤ w4.heap.size := hB04.size; go_simp
   (go_at_call 99; (with_reducible refine (ar0 (base := B) _ (.slice ba zk.length bc) i1 zk (BrT.mk (xf, xg, xb) (.slice pa2 pn2 pc2) (.slice ta2 tn2 tc2) L2 zy) w6.heap.size (hM4.b.pure hbe) (by have := hbe.size; omega) hlbh.out hil N (fun e => by have := hbl _ e; omega)).mono ?_); rintro e w8 ⟨rv, rfl, hO8, hU8, hr8⟩; obtain ⟨ra, rn, rc, rfl⟩ := hO8.shape3)
   have hb : Upd (fun k => Value.ownBlock (.slice ba zk.length bc) = some k) w4 w8 := hb.trans hU8 (fun i e _ => e); have A8 := Aw4.upd hb hbm; have a2 := A8.at 2 rfl; have af := A8.frozen 2; clear A8; refine hKq.out _ _ hb (fun zg => ?_); clear hKq Kq; (try simp only [Act.put, lsT, lsZ, lsS]); refine tkU 18 zg ?_; refine tkU 19 zg ?_; refine tkU 20 zg ?_; refine aq2 21 rfl (fun Kq hKq => ?_); go_simp; refine hKq.out _ _ ?_; clear hKq Kq; (try simp only [Act.put, lsT, lsZ, lsS]); refine asc ?_; have hO7 := hO5.pure ((hB6.mono (qj _)).trans (hb67.mono hB6.size)); have hT7 : Own w4.heap.size 68 2 abc w7 (.slice ta2 tn2 tc2) zy := (hO6.pure hb67).rebase (fun k e => by have := hO6.ge e; have := hbc.size; omega)
   have M9 := hM4.insB hbe (jk hBw hB04.size) i1 (b := (BrT.mk (xf, xg, xb) (.slice pa2 pn2 pc2) (.slice ta2 tn2 tc2) L2 zy)) (r := .slice ra rn rc) hO8 hU8 hr8 hO7 hT7 hwxh.out (fun p hp => by
    obtain ⟨y, hy, e⟩ := jv.1 (show p.p ∈ zu.map PtT.p from hL2.out ▸ jw hp); have h1 := hph.out.i y hy; have e : y.id = p.id := congrArg Pt.id e
    omega) hwth.out
   have hUf := ((Upd.of_below (S := fun i => B ≤ i) hB04).trans hb (fun k e _ => hMh.out.b.ge e)).trans (Upd.set (S := fun k => k = m) (p := ⟨m, 2, none⟩) rfl (.slice ra rn rc)) (fun k e _ => by rw [show k = m from e]; exact hMh.out.mB); have M9h := qq M9; clear M9 hb; go_wp2; go_end0; rw [hRh.out, qk (by simp), qk (by simp), qk (by rw [hzh.out]; simp)]; refine aip ?_ M9h.out hUf; unfold StT.s; dsimp only; rw [ann, ← hL2.out]; rfl
theorem bb5 {k : Int} (h : us k ≠ 0) : k = 1 ∨ k = 2 ∨ k = 3 ∨ k = 4 ∨ k = 5 ∨ k = 6 ∨ k = 7 ∨ k = 8 ∨ k = 9 := by
 unfold us at h
 repeat (first | omega | split at h)
def ak0 (k : Int) : Nat := if k = 1 then 30 else if k = 2 then 31 else if k = 3 then 32 else if k = 4 then 33 else if k = 5 then 34 else if k = 6 then 35 else if k = 7 then 36 else if k = 8 then 37 else if k = 9 then 38 else 0
def hK (m : Nat) (i : Int) : Option Value := if i = 9 then some (.func (.func 38) #[.pointer (some ⟨m, 0, none⟩)] #[]) else if i = 8 then some (.func (.func 37) #[.pointer (some ⟨m, 0, none⟩)] #[]) else if i = 7 then some (.func (.func 36) #[.pointer (some ⟨m, 0, none⟩)] #[]) else if i = 6 then some (.func (.func 35) #[.pointer (some ⟨m, 0, none⟩)] #[]) else if i = 5 then some (.func (.func 34) #[.pointer (some ⟨m, 0, none⟩)] #[]) else if i = 4 then some (.func (.func 33) #[.pointer (some ⟨m, 0, none⟩)] #[]) else if i = 3 then some (.func (.func 32) #[.pointer (some ⟨m, 0, none⟩)] #[]) else if i = 2 then some (.func (.func 31) #[.pointer (some ⟨m, 0, none⟩)] #[]) else if i = 1 then some (.func (.func 30) #[.pointer (some ⟨m, 0, none⟩)] #[]) else none
theorem bdr {m : Nat} {k : Int} (h : us k ≠ 0) : hK m k = some (.func (.func (ak0 k)) #[.pointer (some ⟨m, 0, none⟩)] #[]) := by
 rcases bb5 h with rfl | rfl | rfl | rfl | rfl | rfl | rfl | rfl | rfl <;> rfl
theorem ar1 {k : Int} (h : us k ≠ 0) (args : Array Value) (w : World) : (callFunc (ak0 k) args).run prog w = .ok (.enter (ak0 k) args) w := by
 rcases bb5 h with rfl | rfl | rfl | rfl | rfl | rfl | rfl | rfl | rfl <;> kernel_rfl
theorem ar2 {l : List Br} {b : Br} (hb : b ∈ l) (r : Rf) : aa8 b.zy r ≤ aa8 (ace l) r := by
 obtain ⟨l1, l2, rfl⟩ := List.append_of_mem hb
 have e : ace (l1 ++ b :: l2) = ace l1 ++ (b.zy ++ ace l2) := by unfold ace; rw [List.flatMap_append, List.flatMap_cons]
 rw [e, aa6, aa6]; omega
theorem aqv {t : StT} (h : t.s.Rt) : ∀ b ∈ t.zk, BrOk t.qs b := by
 intro b hb
 have hm : b.b ∈ t.s.zk := jw hb
 obtain ⟨h1, h2, h3⟩ := h.b _ hm
 have h4 := ame h1
 refine ⟨fun p hp => ⟨h2 _ (jw hp), ?_⟩, fun r hr => ⟨h3 r hr, jk (ar2 hm r) (amd h.bt r)⟩, ?_, ?_⟩
 ·have := h4.1 _ (jw (f := PtT.p) hp)
  unfold Pt.okB at this; simp only [jj] at this; exact this.2
 ·have : b.b.zu.length ≤ 100 := h4.2.1
  have e : b.b.zu.length = b.zu.length := jf _; omega
 ·have : b.b.zy.length ≤ 100 := h4.2.2.1
  have e : b.b.zy.length = b.zy.length := rfl; omega
theorem au6 {e : EnT} (h : e.e.okB = true) : PutsOk e.zu ∧ e.zy.length ≤ 1000000 ∧ us e.kind ≠ 0 := by
 unfold En.okB at h
 simp only [jj, jt, qm, Bool.not_eq_true', ju] at h
 obtain ⟨⟨⟨⟨⟨⟨⟨⟨h0, -⟩, -⟩, -⟩, -⟩, h5⟩, h6⟩, h7⟩, -⟩ := h
 have hl : e.e.zu.length = e.zu.length := jf _
 have hl2 : e.e.zy.length = e.zy.length := rfl
 refine ⟨⟨fun x hx => ?_, fun x hx => ?_, by omega⟩, by omega, h0⟩
 ·have := h7 _ (jw (f := PtT.p) hx)
  unfold Pt.okB at this; simp only [jj] at this; exact this.2
 ·have := h7 _ (jw (f := PtT.p) hx)
  unfold Pt.okB ah2 at this; simp only [jj, Bool.or_eq_true, qm] at this; obtain ⟨⟨⟨⟨-, h1⟩, h2⟩, -⟩, -⟩ := this; have e1 : x.p.id = x.id := rfl; rw [e1] at h1 h2; rcases h2 with h2 | h2
  ·rw [h2, beq_iff_eq, jj, qm, qm] at h1
   omega
  ·rw [h2]; omega
def ad3 (ek : Int) : Prop := ∀ (w : World) (B m : Nat) (nx : Int) (qa : Option Addr) (qc : Nat) (ba : Option Addr) (bc : Nat) (ha : Option Addr) (hc : Nat) (qs : List QuT) (zk : List BrT) (hs_ : List He) (en : ByteArray) (ei : Int) (xf : Int) (xg xb : ByteArray) (pa : Option Addr) (pc : Nat) (ta : Option Addr) (tc : Nat) (zu : List PtT) (zy : List Rf), MkS B m (.slice none 0 0) w (StT.mk nx (.slice qa qs.length qc) (.slice ba zk.length bc) (.slice ha hs_.length hc) qs zk hs_) → B ≤ w.heap.size → EnRd (fun i => i < B) w (EnT.mk ek en ei (xf, xg, xb) (.slice pa zu.length pc) (.slice ta zy.length tc) zu zy) → (StT.mk nx (.slice qa qs.length qc) (.slice ba zk.length bc) (.slice ha hs_.length hc) qs zk hs_).s.Rt → (EnT.mk ek en ei (xf, xg, xb) (.slice pa zu.length pc) (.slice ta zy.length tc) zu zy).e.okB = true → StSm (StT.mk nx (.slice qa qs.length qc) (.slice ba zk.length bc) (.slice ha hs_.length hc) qs zk hs_) → (∀ u, Upd (fun i => B ≤ i) w u → Tb u) →
 Calls prog (ak0 ek) #[.pointer (some ⟨m, 0, none⟩), .agg #[.int .u8 ek, .string en, .int .u64 ei, .int .u32 xf, .string xg, .string xb, .slice pa zu.length pc, .slice ta zy.length tc]] w (ag9 B m w ((StT.mk nx (.slice qa qs.length qc) (.slice ba zk.length bc) (.slice ha hs_.length hc) qs zk hs_).s.kind (EnT.mk ek en ei (xf, xg, xb) (.slice pa zu.length pc) (.slice ta zy.length tc) zu zy).e))
theorem aly {ek : Int} {w : World} {B : Nat} {nx : Int} {qa : Option Addr} {qc : Nat} {ba : Option Addr} {bc : Nat} {ha : Option Addr} {hc : Nat} {qs : List QuT} {zk : List BrT} {hs_ : List He} {en : ByteArray} {ei : Int} {xf : Int} {xg xb : ByteArray} {pa : Option Addr} {pc : Nat} {ta : Option Addr} {tc : Nat} {zu : List PtT} {zy : List Rf} (hE : EnRd (fun i => i < B) w (EnT.mk ek en ei (xf, xg, xb) (.slice pa zu.length pc) (.slice ta zy.length tc) zu zy)) (hs : (StT.mk nx (.slice qa qs.length qc) (.slice ba zk.length bc) (.slice ha hs_.length hc) qs zk hs_).s.Rt) (he : (EnT.mk ek en ei (xf, xg, xb) (.slice pa zu.length pc) (.slice ta zy.length tc) zu zy).e.okB = true) (hsm : StSm (StT.mk nx (.slice qa qs.length qc) (.slice ba zk.length bc) (.slice ha hs_.length hc) qs zk hs_)) :
 PutsOk zu ∧ zy.length ≤ 1000000 ∧ qsB nx (qs.map QuT.q) = true ∧ RisK aav BrT.x zk ∧ RisK aav He.x hs_ ∧ (∀ b ∈ zk, BrOk qs b) ∧ (0 ≤ xf ∧ xf < 4294967296) ∧ (0 ≤ ei ∧ ei < 18446744073709551616) ∧ (1 ≤ nx ∧ nx ≤ 1099511627777) ∧ QsOk qs := by
 obtain ⟨hp, hl, hu⟩ := au6 he
 have hok : qsB nx (qs.map QuT.q) = true := by
  have := ao3.2 hs; unfold St.okB at this; simp only [jj] at this; exact this.1.1.2
 exact ⟨hp, hl, hok, (ad6 (c := aav) (k := Br.x) (g := BrT.b)).1 hs.ba, hs.ha, aqv hs, ⟨hE.wf.x0, hE.wf.x1⟩, ⟨hE.wf.n0, hE.wf.n1⟩, ⟨hs.n0, hs.n1⟩, hsm.ok hok⟩
theorem axy : ad3 1 := by
 intro w B m nx qa qc ba bc ha hc qs zk hs_ en ei xf xg xb pa pc ta tc zu zy hM hBw hE hs he hsm hTb
 obtain ⟨hp, hl, hok, hbr, hhr, hbo, hx, hn, hnx, hQ⟩ := aly hE hs he hsm
 unfold St.kind
 show Calls prog (ak0 1) _ w (ag9 B m w (if (1 : Int) = 1 then _ else _))
 exact aux w B m nx qa qc ba bc ha hc qs zk hs_ 1 en ei xf xg xb pa zu.length pc ta zy.length tc _ hM hBw rfl rfl hok hsm.q hn
theorem baa : ad3 2 := by
 intro w B m nx qa qc ba bc ha hc qs zk hs_ en ei xf xg xb pa pc ta tc zu zy hM hBw hE hs he hsm hTb
 obtain ⟨hp, hl, hok, hbr, hhr, hbo, hx, hn, hnx, hQ⟩ := aly hE hs he hsm
 unfold St.kind
 show Calls prog (ak0 2) _ w (ag9 B m w (if (2 : Int) = 1 then _ else _))
 exact axu w B m nx qa qc ba bc ha hc qs zk hs_ 2 en ei xf xg xb pa zu.length pc ta zy.length tc _ hM hBw rfl hok hsm.q hsm.b
theorem bb6 : ad3 3 := by
 intro w B m nx qa qc ba bc ha hc qs zk hs_ en ei xf xg xb pa pc ta tc zu zy hM hBw hE hs he hsm hTb
 obtain ⟨hp, hl, hok, hbr, hhr, hbo, hx, hn, hnx, hQ⟩ := aly hE hs he hsm
 unfold St.kind
 show Calls prog (ak0 3) _ w (ag9 B m w (if (3 : Int) = 1 then _ else _))
 exact az8 w B m nx qa qc ba bc ha hc qs zk hs_ 3 en ei xf xg xb pa pc ta tc zu zy hM hBw hE hok hsm hp hl hTb
theorem au7 : ad3 4 := by
 intro w B m nx qa qc ba bc ha hc qs zk hs_ en ei xf xg xb pa pc ta tc zu zy hM hBw hE hs he hsm hTb
 obtain ⟨hp, hl, hok, hbr, hhr, hbo, hx, hn, hnx, hQ⟩ := aly hE hs he hsm
 unfold St.kind
 show Calls prog (ak0 4) _ w (ag9 B m w (if (4 : Int) = 1 then _ else _))
 exact au5 w B m nx qa qc ba bc ha hc qs zk hs_ 4 en ei xf xg xb pa pc ta tc zu zy hM hBw hE hok hbr hhr hsm hp hl hTb
theorem bb7 : ad3 5 := by
 intro w B m nx qa qc ba bc ha hc qs zk hs_ en ei xf xg xb pa pc ta tc zu zy hM hBw hE hs he hsm hTb
 obtain ⟨hp, hl, hok, hbr, hhr, hbo, hx, hn, hnx, hQ⟩ := aly hE hs he hsm
 unfold St.kind
 show Calls prog (ak0 5) _ w (ag9 B m w (if (5 : Int) = 1 then _ else _))
 exact (apq w B m nx qa qc ba bc ha hc qs zk hs_ 5 en ei xf xg xb pa zu.length pc ta zy.length tc _ hM hBw rfl rfl hn hbr hQ hsm.b hbo hnx hTb).mono (fun _ _ h => h.ap hM)
theorem au8 : ad3 6 := by
 intro w B m nx qa qc ba bc ha hc qs zk hs_ en ei xf xg xb pa pc ta tc zu zy hM hBw hE hs he hsm hTb
 obtain ⟨hp, hl, hok, hbr, hhr, hbo, hx, hn, hnx, hQ⟩ := aly hE hs he hsm
 unfold St.kind
 show Calls prog (ak0 6) _ w (ag9 B m w (if (6 : Int) = 1 then _ else _))
 exact (axv w B m nx qa qc ba bc ha hc qs zk hs_ 6 en ei xf xg xb pa zu.length pc ta zy.length tc _ hM hBw rfl hbr hQ hsm.b (fun b hb r hr => ((hbo b hb).tm r hr).1) (fun b hb => (hbo b hb).tl)).mono (fun _ _ h => h.ap hM)
theorem aqw {t : StT} (h : t.s.Rt) : (∀ q ∈ t.qs, ∀ m ∈ q.zw, m.pr.p.smallB = true) ∧ ∀ b ∈ t.zk, (∀ p ∈ b.zu, p.pr.p.smallB = true) ∧ b.zu.length ≤ 1000000 ∧ b.zy.length ≤ 1000000 := by
 refine ⟨fun q hq m hm => ?_, fun b hb => ⟨fun p hp => ((aqv h b hb).pq p hp).2, (aqv h b hb).pl, (aqv h b hb).tl⟩⟩
 have := ((h.q _ (jw hq)).ms _ (jw hm)).2.2
 unfold Ms.okB at this
 rw [jj] at this
 exact this.2
theorem StOw.open {B : Nat} {w : World} {t : StT} (h : StOw B w t) : ∃ (n : Int) (qa : Option Addr) (qc : Nat) (ba : Option Addr) (bc : Nat) (ha : Option Addr) (hc : Nat) (qs : List QuT) (zk : List BrT) (hs : List He),
 t = StT.mk n (.slice qa qs.length qc) (.slice ba zk.length bc) (.slice ha hs.length hc) qs zk hs := by
 obtain ⟨n, qv, bv, hv, qs, zk, hs⟩ := t
 obtain ⟨qa, qc, rfl, -⟩ : ∃ a c, qv = .slice a qs.length c ∧ qs.length ≤ maxLen := (h.q.slc aaf).len
 obtain ⟨ba, bc, rfl, -⟩ : ∃ a c, bv = .slice a zk.length c ∧ zk.length ≤ maxLen := (h.b.slc aag).len
 obtain ⟨ha, hc, rfl, -⟩ : ∃ a c, hv = .slice a hs.length c ∧ hs.length ≤ maxLen := (h.h.slc adi).len
 exact ⟨n, qa, qc, ba, bc, ha, hc, qs, zk, hs, rfl⟩
theorem EnRd.below {P : Nat → Prop} {w : World} {t : EnT} (h : EnRd P w t) {B : Nat} (hB : w.heap.size ≤ B) : EnRd (fun i => i < B) w t :=
 ⟨h.p, fun k e n => jg (aez aae (by omega) h.p n k e) hB, fun x hx => (h.r x hx).lt.weaken (fun i hi _ => jg hi hB), h.s, fun k e n => jg (aez aa9 (by omega) h.s n k e) hB, h.wf⟩
theorem StSm.same {t t' : StT} (h : StSm t) (e : t'.s = t.s) : StSm t' := by
 have eq : t'.qs.map QuT.q = t.qs.map QuT.q := congrArg St.qs e
 refine ⟨?_, fun q hq => ?_, ?_, ?_⟩
 ·have := congrArg List.length eq; rw [jf, jf] at this; rw [this]; exact h.q
 ·have hm : q.q ∈ t.qs.map QuT.q := by rw [← eq]; exact jw hq
  obtain ⟨p, hp, e2⟩ := jv.1 hm; have := congrArg (fun x => x.zw.length) e2; have : p.zw.length = q.zw.length := by simpa [QuT.q] using this
  rw [← this]; exact h.m p hp
 ·have := congrArg (fun x => x.zk.length) e
  have : t'.zk.length = t.zk.length := by simpa [StT.s] using this
  rw [this]; exact h.b
 ·have : t'.hs = t.hs := congrArg St.hs e
  rw [this]; exact h.h
def avr (q : St × Int) : Prop := (∃ g, q = no g) ∨ q.2 = 0
theorem air {c : Prop} [Decidable c] {a b : St × Int} (h1 : avr a) (h2 : avr b) : avr (if c then a else b) := by
 split
 ·exact h1
 ·exact h2
theorem aki (g : Int) : avr (no g) := .inl ⟨g, rfl⟩
theorem amr (t : St) : avr (t, 0) := .inr rfl
theorem an6 {q : St × Int} {x : Xn} {c : Bool} (h : avr q) : avr (ao2 q x c) := by
 unfold ao2
 exact air (amr _) h
theorem bds {s : St} {e : En} (hz : ¬ (s.ap e).2 = 0) {f : Int} (hf : (s.ap e).2 = f) : s.ap e = no f := by
 subst hf
 have hco : avr (s.commit e) := by
  unfold St.commit; split
  ·exact aki _
  ·exact air (aki _) (air (aki _) (amr _))
 have hba : avr (s.back e) := by
  unfold St.back; split
  ·exact aki _
  ·exact amr _
 have h : avr (s.ap e) := by
  unfold St.ap St.kind St.queue St.drop St.doE St.prep St.forget
  repeat' (first | exact aki _ | exact amr _ | exact hco | exact hba | exact an6 hco | exact an6 hba | apply air)
 rcases h with ⟨g, h⟩ | h
 ·rw [h]; rfl
 ·exact jp h hz
def bdz (s : St) (e : En) (w : World) (r : Ending) (w' : World) : Prop := ∃ t' : StT, r = .returned (.tuple #[t'.arg, .int .i64 (s.ap e).2]) ∧ t'.s = (s.ap e).1 ∧ StOw w.heap.size w' t' ∧ Below w.heap.size w w'
theorem apr {s : St} {e : En} {w w' : World} {f : Int} (h : s.ap e = no f) (hB : Below w.heap.size w w') : bdz s e w (.returned (.tuple #[.agg #[.int .u64 0, .slice none 0 0, .slice none 0 0, .slice none 0 0], .int .i64 f])) w' :=
 ⟨StT.zero, by rw [h]; rfl, by rw [h]; rfl, StOw.zero _ _, hB⟩
theorem an7 (hCk : ayk) {k : Int} (hKi : ad3 k) (w : World) (t : StT) (e : EnT) (P : Nat → Prop) (hR : StRd P w t) (hE : EnRd P w e) (hT : Tb w) (hS : StSm t) (hk : e.kind = k := by rfl) :
 Calls prog 12 #[t.arg, e.arg] w (bdz t.s e.e w) := by
 obtain ⟨nx, qa, qc, ba, bc, ha, hc, qs, zk, hs, rfl, -, -, -⟩ := hR.open
 obtain ⟨ek, en, ei, xf, xg, xb, pa, pc, ta, tc, zu, zy, rfl, -, -⟩ := hE.open
 obtain rfl : ek = k := hk
 have hKih := qq hKi
 clear hKi
 rw [StT.arg_mk]
 show Calls _ _ #[_, .agg #[.int .u8 ek, .string en, .int .u64 ei, .int .u32 xf, .string xg, .string xb, .slice pa zu.length pc, .slice ta zy.length tc]] w _
 have hmf : ∀ (fn : Fn) (first cap : Array Value) (w : World), (Instr.makeFunc fn first cap).run prog w = .ok (.func fn first cap) w := fun _ _ _ _ => rfl
 obtain ⟨u, hu⟩ := zj ((((w.alloc (.cells #[.int .u64 nx, .slice qa qs.length qc, .slice ba zk.length bc, .slice ha hs.length hc] 27)).alloc (.cells #[.int .u8 ek, .string en, .int .u64 ei, .int .u32 xf, .string xg, .string xb, .slice pa zu.length pc, .slice ta zy.length tc] 34)).alloc (.cells #[.int .u64 0, .slice none 0 0, .slice none 0 0, .slice none 0 0] 27)).alloc (.cells #[.int .i64 0] 41))
 have hB4 : Below w.heap.size w u := by rw [hu]; exact ((((qz _ _).alloc (qj _) _).alloc (by simp) _).alloc (by simp; omega) _).alloc (by simp; omega) _
 have S4 : Blk u w.heap.size [.int .u64 nx, .slice qa qs.length qc, .slice ba zk.length bc, .slice ha hs.length hc] := by rw [hu]; exact (((Blk.new w _ 27).alloc _).alloc _).alloc _
 have E4 : Blk u (w.heap.size + 1) [.int .u8 ek, .string en, .int .u64 ei, .int .u32 xf, .string xg, .string xb, .slice pa zu.length pc, .slice ta zy.length tc] := by rw [hu]; exact ((Blk.newE _ _ 34 (w.heap.size + 1) (by simp)).alloc _).alloc _
 have O4 : Blk u (w.heap.size + 1 + 1) [.int .u64 0, .slice none 0 0, .slice none 0 0, .slice none 0 0] := by rw [hu]; exact (Blk.newE _ _ 27 (w.heap.size + 1 + 1) (by simp)).alloc _
 have N4 : Blk u (w.heap.size + 1 + 1 + 1) [.int .i64 0] := by rw [hu]; exact Blk.newE _ _ 41 (w.heap.size + 1 + 1 + 1) (by simp)
 have hz4 : w.heap.size + 4 = u.heap.size := by rw [hu]; simp
 have huh := qq hu
 clear hu
 have hck := qq (fun (v : World) (h : Below w.heap.size w v) => ajx hCk v (StT.mk nx (.slice qa qs.length qc) (.slice ba zk.length bc) (.slice ha hs.length hc) qs zk hs) P (hR.pure h) (hT.pure h) hS)
 have hce := qq (fun (v : World) (h : Below w.heap.size w v) => hCk (EnT.mk ek en ei (xf, xg, xb) (.slice pa zu.length pc) (.slice ta zy.length tc) zu zy) P v (hE.pure h) (hT.pure h))
 obtain ⟨s, hs0⟩ : ∃ s, (StT.mk nx (.slice qa qs.length qc) (.slice ba zk.length bc) (.slice ha hs.length hc) qs zk hs).s = s := ⟨_, rfl⟩
 obtain ⟨en0, he0⟩ : ∃ e, (EnT.mk ek en ei (xf, xg, xb) (.slice pa zu.length pc) (.slice ta zy.length tc) zu zy).e = e := ⟨_, rfl⟩
 rw [hs0, he0]
 rw [hs0] at hck; rw [he0] at hce
 rw [StT.arg_mk] at hck
 rw [show (EnT.mk ek en ei (xf, xg, xb) (.slice pa zu.length pc) (.slice ta zy.length tc) zu zy).arg = .agg #[.int .u8 ek, .string en, .int .u64 ei, .int .u32 xf, .string xg, .string xb, .slice pa zu.length pc, .slice ta zy.length tc] from rfl] at hce
 have hs0h := qq hs0; have he0h := qq he0
 have hRh := qq hR; have hEh := qq hE; have hTh := qq hT; have hSh := qq hS
 clear hs0 he0 hR hE hT hS
 obtain ⟨s0, s1, s2, s3⟩ := S4.a4
 obtain ⟨c1, hc1⟩ := zz s.okB
 cases c1
 ·have hap : s.ap en0 = no 140 := by unfold St.ap; rw [qw hc1]
  have hch : s.chk = 140 := bb2 hc1; rw [hch] at hck; have hckh := qq (hck.out u hB4); have haph := qq hap; clear hck hc1 hap hch hce; go_enter_defers func12, ntmps12; go_upto_region 1 with fail; rw [← huh.out]; go_wp2_with (go_at_call 15; (with_reducible refine hckh.out.mono ?_); rintro r w2 ⟨rfl, hB2⟩; have O2 := O4.pure hB2; have N2 := N4.pure hB2; obtain ⟨o0, o1, o2, o3⟩ := O2.a4; have n0 := N2.at 0 rfl; obtain ⟨f0, f1, f2, f3⟩ := O2.f4; have f4 := N2.frozen 0); have O9 := (((((O2.set 0 (.int .u64 0)).set 1 (.slice none 0 0)).set 2 (.slice none 0 0)).set 3 (.slice none 0 0)).other ⟨w.heap.size + 1 + 1 + 1, 0, none⟩ (.int .i64 140) (by simp only; omega)); have N9 := (((((N2.other ⟨w.heap.size + 1 + 1, 0, none⟩ (.int .u64 0) (by simp only; omega)).other ⟨w.heap.size + 1 + 1, 1, none⟩ (.slice none 0 0) (by simp only; omega)).other ⟨w.heap.size + 1 + 1, 2, none⟩ (.slice none 0 0) (by simp only; omega)).other ⟨w.heap.size + 1 + 1, 3, none⟩ (.slice none 0 0) (by simp only; omega)).set 0 (.int .i64 140)); obtain ⟨p0, p1, p2, p3⟩ := O9.a4; have p4 := N9.at 0 rfl; have hUo := (((((Upd.set (S := OutS (w.heap.size + 1 + 1)) (w := w2) (p := ⟨w.heap.size + 1 + 1, 0, none⟩) (Or.inl rfl) (.int .u64 0)).trans (Upd.set (S := OutS (w.heap.size + 1 + 1)) (p := ⟨w.heap.size + 1 + 1, 1, none⟩) (Or.inl rfl) (.slice none 0 0)) (fun _ h _ => h)).trans (Upd.set (S := OutS (w.heap.size + 1 + 1)) (p := ⟨w.heap.size + 1 + 1, 2, none⟩) (Or.inl rfl) (.slice none 0 0)) (fun _ h _ => h)).trans (Upd.set (S := OutS (w.heap.size + 1 + 1)) (p := ⟨w.heap.size + 1 + 1, 3, none⟩) (Or.inl rfl) (.slice none 0 0)) (fun _ h _ => h)).trans (Upd.set (S := OutS (w.heap.size + 1 + 1)) (p := ⟨w.heap.size + 1 + 1 + 1, 0, none⟩) (Or.inr rfl) (.int .i64 140)) (fun _ h _ => h)); refine ⟨_, (by simp [results, Tryz.results12, go_sem, p0, p1, p2, p3, p4]; try rfl), apr haph.out ?_⟩; exact (Upd.below ((Upd.of_below (S := fun k => w.heap.size ≤ k) (hB4.trans (hB2.mono hB4.size))).trans hUo (fun k h _ => by unfold OutS at h; omega)) (qj _) (fun k h => h))
 have hRt := ao3.1 hc1
 have hch : s.chk = 0 := awg.2 hc1
 rw [hch] at hck
 have hckh := qq (hck.out u hB4)
 have hRth := qq hRt; have hc1h := qq hc1
 obtain ⟨c2, hc2⟩ := zz en0.okB
 clear hck hc1 hch hRt
 cases c2
 ·have hap : s.ap en0 = no 130 := by unfold St.ap; rw [qk (by rw [hc1h.out]; simp), qw hc2]
  have hch : en0.chk = 130 := by unfold En.chk; rw [hc2]; rfl
  rw [hch] at hce; have hceh := qq hce.out; have haph := qq hap; clear hc2 hap hch hce; go_enter_defers func12, ntmps12; go_upto_region 1 with fail; rw [← huh.out]; go_wp2_with (first | (go_at_call 15; (with_reducible refine hckh.out.mono ?_); rintro r w2 ⟨rfl, hB2⟩; have O2 := O4.pure hB2; have N2 := N4.pure hB2; have E2 := E4.pure hB2; obtain ⟨e0, e1, e2, e3, e4, e5, e6, e7⟩ := E2.a8; have hB02 := hB4.trans (hB2.mono hB4.size)) | (go_at_call 27; (with_reducible refine (hceh.out _ hB02).mono ?_); rintro r w3 ⟨rfl, hB3⟩; have O3 := O2.pure hB3; have N3 := N2.pure hB3; have hB03 := hB02.trans (hB3.mono hB02.size); obtain ⟨o0, o1, o2, o3⟩ := O3.a4; have n0 := N3.at 0 rfl; obtain ⟨f0, f1, f2, f3⟩ := O3.f4; have f4 := N3.frozen 0)); have O9 := (((((O3.set 0 (.int .u64 0)).set 1 (.slice none 0 0)).set 2 (.slice none 0 0)).set 3 (.slice none 0 0)).other ⟨w.heap.size + 1 + 1 + 1, 0, none⟩ (.int .i64 130) (by simp only; omega)); have N9 := (((((N3.other ⟨w.heap.size + 1 + 1, 0, none⟩ (.int .u64 0) (by simp only; omega)).other ⟨w.heap.size + 1 + 1, 1, none⟩ (.slice none 0 0) (by simp only; omega)).other ⟨w.heap.size + 1 + 1, 2, none⟩ (.slice none 0 0) (by simp only; omega)).other ⟨w.heap.size + 1 + 1, 3, none⟩ (.slice none 0 0) (by simp only; omega)).set 0 (.int .i64 130)); obtain ⟨p0, p1, p2, p3⟩ := O9.a4; have p4 := N9.at 0 rfl; have hUo := (((((Upd.set (S := OutS (w.heap.size + 1 + 1)) (w := w3) (p := ⟨w.heap.size + 1 + 1, 0, none⟩) (Or.inl rfl) (.int .u64 0)).trans (Upd.set (S := OutS (w.heap.size + 1 + 1)) (p := ⟨w.heap.size + 1 + 1, 1, none⟩) (Or.inl rfl) (.slice none 0 0)) (fun _ h _ => h)).trans (Upd.set (S := OutS (w.heap.size + 1 + 1)) (p := ⟨w.heap.size + 1 + 1, 2, none⟩) (Or.inl rfl) (.slice none 0 0)) (fun _ h _ => h)).trans (Upd.set (S := OutS (w.heap.size + 1 + 1)) (p := ⟨w.heap.size + 1 + 1, 3, none⟩) (Or.inl rfl) (.slice none 0 0)) (fun _ h _ => h)).trans (Upd.set (S := OutS (w.heap.size + 1 + 1)) (p := ⟨w.heap.size + 1 + 1 + 1, 0, none⟩) (Or.inr rfl) (.int .i64 130)) (fun _ h _ => h)); refine ⟨_, (by simp [results, Tryz.results12, go_sem, p0, p1, p2, p3, p4]; try rfl), apr haph.out ?_⟩; exact (Upd.below ((Upd.of_below (S := fun k => w.heap.size ≤ k) hB03).trans hUo (fun k h _ => by unfold OutS at h; omega)) (qj _) (fun k h => h))
 have hch : en0.chk = 0 := by unfold En.chk; rw [hc2]; rfl
 rw [hch] at hce
 have hceh := qq hce.out
 have hap : s.ap en0 = s.kind en0 := by unfold St.ap; rw [qk (by rw [hc1h.out]; simp), qk (by rw [hc2]; simp)]
 have haph := qq hap; have hc2h := qq hc2
 have hown := qq (fun (v : World) (h : Below w.heap.size w v) => au0 v (StT.mk nx (.slice qa qs.length qc) (.slice ba zk.length bc) (.slice ha hs.length hc) qs zk hs) P (hRh.out.pure h) (hTh.out.pure h) hSh.out (aqw (by rw [hs0h.out]; exact hRth.out)).1 (aqw (by rw [hs0h.out]; exact hRth.out)).2)
 rw [StT.arg_mk, hs0h.out] at hown
 clear hc2 hap hch hce
 go_enter_defers func12, ntmps12
 go_upto_region 1 with fail
 rw [← huh.out]
 go_upto_region 8 with (first | (go_at_call 15; (with_reducible refine hckh.out.mono ?_); rintro r w2 ⟨rfl, hB2⟩; have O2 := O4.pure hB2; have N2 := N4.pure hB2; have E2 := E4.pure hB2; obtain ⟨e0, e1, e2, e3, e4, e5, e6, e7⟩ := E2.a8; have hB02 := hB4.trans (hB2.mono hB4.size)) | (go_at_call 27; (with_reducible refine (hceh.out _ hB02).mono ?_); rintro r w3 ⟨rfl, hB3⟩; have O3 := O2.pure hB3; have N3 := N2.pure hB3; have hB03 := hB02.trans (hB3.mono hB02.size); have S3 := (S4.pure hB2).pure hB3; obtain ⟨s4, s5, s6, s7⟩ := S3.a4))
 clear s0 s1 s2 s3 e0 e1 e2 e3 e4 e5 e6 e7
 go_upto_region 9 with (go_at_call 29; (with_reducible refine (hown.out _ hB03).mono ?_); rintro r w4 ⟨t1, rfl, ht1, hW4, hB4x⟩; obtain ⟨n1, qa1, qc1, ba1, bc1, ha1, hc1, qs1, brs1, hs1, rfl⟩ := hW4.open; rw [StT.arg_mk]; have ht1 := qq ht1; have hW4 := qq hW4)
 clear s4 s5 s6 s7 hown S3
 have hz3 : w.heap.size + 4 ≤ w3.heap.size := by have := hB2.size; have := hB3.size; omega
 have M5 := MkS.of hW4.out hB4x.size
 have hA5 := (qz w4.heap.size w4).alloc (qj _) (.cells #[.int .u64 n1, .slice qa1 qs1.length qc1, .slice ba1 brs1.length bc1, .slice ha1 hs1.length hc1] 81)
 have hB35 := hB4x.trans (hA5.mono hB4x.size)
 obtain ⟨w5, hw5⟩ := zj (w4.alloc (.cells #[.int .u64 n1, .slice qa1 qs1.length qc1, .slice ba1 brs1.length bc1, .slice ha1 hs1.length hc1] 81))
 have M5 : MkS w3.heap.size w4.heap.size (.slice none 0 0) w5 (StT.mk n1 (.slice qa1 qs1.length qc1) (.slice ba1 brs1.length bc1) (.slice ha1 hs1.length hc1) qs1 brs1 hs1) := by rw [hw5]; exact M5
 have hz5 : w4.heap.size < w5.heap.size := by rw [hw5]; simp
 have E5 := ((E4.pure hB2).pure hB3).pure (by rw [← hw5] at hB35; exact hB35)
 rw [← hw5] at hA5 hB35 ⊢
 clear hw5
 have F0 : FnM (w5.alloc (.map #[] 0)) w5.heap.size (fun _ => none) 0 := MapG.made w5
 have hA6 := (qz w5.heap.size w5).alloc (qj _) (.map #[] 0)
 have hmm : (Instr.makeMap 83 none).run prog w5 = .ok (.map (some w5.heap.size)) (w5.alloc (.map #[] 0)) := by kernel_rfl
 obtain ⟨x0, hx0⟩ := zj (w5.alloc (.map #[] 0))
 rw [← hx0] at F0 hA6 hmm
 clear hx0
 obtain ⟨x1, r1, ⟨k1, hk1, F1⟩, u1⟩ := ahb F0 (by omega) 1 ⟨by omega, by omega⟩ (.func (.func 30) #[.pointer (some ⟨w4.heap.size, 0, none⟩)] #[])
 obtain ⟨x2, r2, ⟨k2, hk2, F2⟩, u2⟩ := ahb F1 (by omega) 2 ⟨by omega, by omega⟩ (.func (.func 31) #[.pointer (some ⟨w4.heap.size, 0, none⟩)] #[])
 obtain ⟨x3, r3, ⟨k3, hk3, F3⟩, u3⟩ := ahb F2 (by omega) 3 ⟨by omega, by omega⟩ (.func (.func 32) #[.pointer (some ⟨w4.heap.size, 0, none⟩)] #[])
 obtain ⟨x4, r4, ⟨k4, hk4, F4⟩, u4⟩ := ahb F3 (by omega) 4 ⟨by omega, by omega⟩ (.func (.func 33) #[.pointer (some ⟨w4.heap.size, 0, none⟩)] #[])
 obtain ⟨x5, r5, ⟨k5, hk5, F5⟩, u5⟩ := ahb F4 (by omega) 5 ⟨by omega, by omega⟩ (.func (.func 34) #[.pointer (some ⟨w4.heap.size, 0, none⟩)] #[])
 obtain ⟨x6, r6, ⟨k6, hk6, F6⟩, u6⟩ := ahb F5 (by omega) 6 ⟨by omega, by omega⟩ (.func (.func 35) #[.pointer (some ⟨w4.heap.size, 0, none⟩)] #[])
 obtain ⟨x7, r7, ⟨k7, hk7, F7⟩, u7⟩ := ahb F6 (by omega) 7 ⟨by omega, by omega⟩ (.func (.func 36) #[.pointer (some ⟨w4.heap.size, 0, none⟩)] #[])
 obtain ⟨x8, r8, ⟨k8, hk8, F8⟩, u8⟩ := ahb F7 (by omega) 8 ⟨by omega, by omega⟩ (.func (.func 37) #[.pointer (some ⟨w4.heap.size, 0, none⟩)] #[])
 obtain ⟨x9, r9, ⟨k9, hk9, F9⟩, u9⟩ := ahb F8 (by omega) 9 ⟨by omega, by omega⟩ (.func (.func 38) #[.pointer (some ⟨w4.heap.size, 0, none⟩)] #[])
 have hA9 : Below w5.heap.size w5 x9 := Upd.below ((((((((((Upd.of_below (S := fun k => k = w5.heap.size) hA6).trans u1 (fun _ e _ => e)).trans u2 (fun _ e _ => e)).trans u3 (fun _ e _ => e)).trans u4 (fun _ e _ => e)).trans u5 (fun _ e _ => e)).trans u6 (fun _ e _ => e)).trans u7 (fun _ e _ => e)).trans u8 (fun _ e _ => e)).trans u9 (fun _ e _ => e)) (qj _) (fun k e => by have e : k = w5.heap.size := e; omega)
 have E9 := E5.pure hA9
 have M9 := M5.pure hA9
 have hek : us ek ≠ 0 := by
  have h := (au6 (e := (EnT.mk ek en ei (xf, xg, xb) (.slice pa zu.length pc) (.slice ta zy.length tc) zu zy)) (by rw [he0h.out]; exact hc2h.out)).2.2; exact h
 have F10 : FnM x9 w5.heap.size (hK w4.heap.size) k9 := F9
 have hlook := F10.look_run au3 (u := ek) ⟨hEh.out.wf.k0, by have : ek < 256 := hEh.out.wf.k1; omega⟩
 rw [bdr hek, Option.getD_some] at hlook
 have hkc := ar1 hek
 have hB09 := hB03.trans ((hB35.trans (hA9.mono hB35.size)).mono hB03.size)
 have hkd := hKih.out x9 w3.heap.size w4.heap.size n1 qa1 qc1 ba1 bc1 ha1 hc1 qs1 brs1 hs1 en ei xf xg xb pa pc ta tc zu zy M9 (jk hB35.size hA9.size) ((hEh.out.below (by omega)).pure hB09) (by rw [ht1.out]; exact hRth.out) (by rw [he0h.out]; exact hc2h.out) (hSh.out.same (by rw [ht1.out, hs0h.out])) (fun v hv => hTh.out.pure (hB09.trans (hv.below (by have := hB09.size; omega) (fun k e => by have e : w3.heap.size ≤ k := e; omega))))
 rw [ht1.out, he0h.out, ← haph.out] at hkd
 have hkdh := qq hkd; have hek := qq hek
 obtain ⟨e0, e1, e2, e3, e4, e5, e6, e7⟩ := E9.a8
 clear hkd M9 F0 F1 F2 F3 F4 F5 F6 F7 F8 F9 F10 u1 u2 u3 u4 u5 u6 u7 u8 u9
 go_wp2
 refine hkdh.out.mono ?_
 rintro r w10 ⟨hres, hU10⟩
 have hB39 := hB35.trans (hA9.mono hB35.size)
 have O10 := (O3.pure hB39).upd hU10 (fun e => by have e : w3.heap.size ≤ w.heap.size + 1 + 1 := e; omega)
 have N10 := (N3.pure hB39).upd hU10 (fun e => by have e : w3.heap.size ≤ w.heap.size + 1 + 1 + 1 := e; omega)
 have hBx := Upd.below ((Upd.of_below (S := fun k => w.heap.size ≤ k) hB09).trans hU10 (fun k e _ => by have e : w3.heap.size ≤ k := e; omega)) (qj _) (fun k h => h)
 by_cases hz : (s.ap en0).2 = 0
 ·rw [qw hz] at hres
  obtain ⟨rfl, t2, ht2, hM2⟩ := hres; obtain ⟨n2, qa2, qc2, ba2, bc2, ha2, hc2, qs2, brs2, hs2, rfl⟩ := hM2.ow.open; have A10 : Blk w10 w4.heap.size [.int .u64 n2, .slice qa2 qs2.length qc2, .slice ba2 brs2.length bc2, .slice ha2 hs2.length hc2] := hM2.a.blk; have hM2h := qq hM2; have ht2h := qq ht2; have hzh := qq hz; obtain ⟨a0, a1, a2, a3⟩ := A10.a4; obtain ⟨o0, o1, o2, o3⟩ := O10.a4; have n0 := N10.at 0 rfl; obtain ⟨f0, f1, f2, f3⟩ := O10.f4; have f4 := N10.frozen 0; clear hM2 ht2 hz e0 e1 e2 e3 e4 e5 e6 e7 hlook r1 r2 r3 r4 r5 r6 r7 r8 r9 hmm hU10 hkc; go_wp2; have O9 := (((((O10.set 0 (.int .u64 n2)).set 1 (.slice qa2 qs2.length qc2)).set 2 (.slice ba2 brs2.length bc2)).set 3 (.slice ha2 hs2.length hc2)).other ⟨w.heap.size + 1 + 1 + 1, 0, none⟩ (.int .i64 0) (by simp only; omega)); have N9 := (((((N10.other ⟨w.heap.size + 1 + 1, 0, none⟩ (.int .u64 n2) (by simp only; omega)).other ⟨w.heap.size + 1 + 1, 1, none⟩ (.slice qa2 qs2.length qc2) (by simp only; omega)).other ⟨w.heap.size + 1 + 1, 2, none⟩ (.slice ba2 brs2.length bc2) (by simp only; omega)).other ⟨w.heap.size + 1 + 1, 3, none⟩ (.slice ha2 hs2.length hc2) (by simp only; omega)).set 0 (.int .i64 0)); obtain ⟨p0, p1, p2, p3⟩ := O9.a4; have p4 := N9.at 0 rfl; have hUo := (((((Upd.set (S := OutS (w.heap.size + 1 + 1)) (w := w10) (p := ⟨w.heap.size + 1 + 1, 0, none⟩) (Or.inl rfl) (.int .u64 n2)).trans (Upd.set (S := OutS (w.heap.size + 1 + 1)) (p := ⟨w.heap.size + 1 + 1, 1, none⟩) (Or.inl rfl) (.slice qa2 qs2.length qc2)) (fun _ h _ => h)).trans (Upd.set (S := OutS (w.heap.size + 1 + 1)) (p := ⟨w.heap.size + 1 + 1, 2, none⟩) (Or.inl rfl) (.slice ba2 brs2.length bc2)) (fun _ h _ => h)).trans (Upd.set (S := OutS (w.heap.size + 1 + 1)) (p := ⟨w.heap.size + 1 + 1, 3, none⟩) (Or.inl rfl) (.slice ha2 hs2.length hc2)) (fun _ h _ => h)).trans (Upd.set (S := OutS (w.heap.size + 1 + 1)) (p := ⟨w.heap.size + 1 + 1 + 1, 0, none⟩) (Or.inr rfl) (.int .i64 0)) (fun _ h _ => h)); refine leaves_cons (f := 28) (args := #[.pointer (some ⟨w.heap.size + 1 + 1, 0, none⟩), .pointer (some ⟨w.heap.size + 1 + 1 + 1, 0, none⟩)]) (by simp) (by simp [go_sem]) ?_; refine (au2 _ (w.heap.size + 1 + 1)).mono ?_; rintro r u' w11 ⟨rfl, rfl, rfl⟩; simp only [Leaves, settle]; refine ⟨_, (by simp [results, Tryz.results12, go_sem, p0, p1, p2, p3, p4]; try rfl), (StT.mk n2 (.slice qa2 qs2.length qc2) (.slice ba2 brs2.length bc2) (.slice ha2 hs2.length hc2) qs2 brs2 hs2), by rw [hzh.out]; rfl, ht2h.out, ((hM2h.out.ow).upd hUo (fun k h => by unfold OutS at h; omega)).base (by omega), ?_⟩; exact hBx.trans (Upd.below hUo hBx.size (fun k h => by unfold OutS at h; omega))
 ·rw [qk hz] at hres
  subst hres; have hzh := qq hz; obtain ⟨f, hf⟩ := zz ((s.ap en0).2); rw [hf]; have hno := qq (show s.ap en0 = no f from bds hz hf); clear hz hf e0 e1 e2 e3 e4 e5 e6 e7 hlook r1 r2 r3 r4 r5 r6 r7 r8 r9 hmm hU10 hkc; go_wp2; refine leaves_cons (f := 28) (args := #[.pointer (some ⟨w.heap.size + 1 + 1, 0, none⟩), .pointer (some ⟨w.heap.size + 1 + 1 + 1, 0, none⟩)]) (by simp) (by simp [go_sem]) ?_; refine (aky _ (w.heap.size + 1 + 1) f _ _ _ _ _ O10 N10).mono ?_; rintro r u' w11 ⟨rfl, rfl, O9, N9, hUo⟩; obtain ⟨p0, p1, p2, p3⟩ := O9.a4; have p4 := N9.at 0 rfl; simp only [Leaves, settle, List.dropWhile_nil]; refine ⟨_, (by simp [results, Tryz.results12, go_sem, p0, p1, p2, p3, p4]; try rfl), apr hno.out ?_⟩; exact hBx.trans (Upd.below hUo hBx.size (fun k h => by unfold OutS at h; omega))
end Go.Proofs.YtgnaifhmcllnlaaGreatDoor
