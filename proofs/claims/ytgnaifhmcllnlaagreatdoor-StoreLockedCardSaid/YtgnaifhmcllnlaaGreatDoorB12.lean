/- The law's head: one call of Apply with literals. Conditions: none. (Texts joined.) -/
import Derived.Test.YtgnaifhmcllnlaaGreatDoorB11
set_option maxRecDepth 100000
set_option maxHeartbeats 12800000
set_option linter.unusedSimpArgs false
set_option linter.unusedVariables false
namespace Go.Proofs.YtgnaifhmcllnlaaGreatDoor
open Go.RowKit Tryz
theorem StWf.of_s {t D : StT} (h : StWf t) (e : D.s = t.s) : StWf D := by
 have N : D.next = t.next := congrArg St.next e
 have K : D.qs.map QuT.q = t.qs.map QuT.q := congrArg St.qs e
 have J : D.zk.map BrT.b = t.zk.map BrT.b := congrArg St.zk e
 have O : D.hs = t.hs := congrArg St.hs e
 have I : ∀ x ∈ D.qs, ∃ y ∈ t.qs, y.q = x.q := fun x A => by
  have := jw (f := QuT.q) A; rw [K] at this; exact jv.1 this
 have G : ∀ x ∈ D.zk, ∃ y ∈ t.zk, y.b = x.b := fun x A => by
  have := jw (f := BrT.b) A; rw [J] at this; exact jv.1 this
 refine ⟨by rw [N]; exact h.n, fun x A => ?_, fun x A m M => ?_, fun x A => ?_, fun x A p U => ?_, fun x A r H => ?_, by rw [O]; exact h.hx⟩
 ·obtain ⟨y, hy, e⟩ := I x A
  have : y.limit = x.limit := congrArg Qu.limit e; rw [← this]; exact h.ql y hy
 ·obtain ⟨y, hy, e⟩ := I x A
  have : y.zw.map MsT.m = x.zw.map MsT.m := congrArg Qu.zw e; have E := jw (f := MsT.m) M; rw [← this] at E; obtain ⟨n, F, e⟩ := jv.1 E; have : n.id = m.id := congrArg Ms.id e; rw [← this]; exact h.mi y hy n F
 ·obtain ⟨y, hy, e⟩ := G x A
  have : y.x = x.x := congrArg Br.x e; rw [← this]; exact h.bx y hy
 ·obtain ⟨y, hy, e⟩ := G x A
  have : y.zu.map PtT.p = x.zu.map PtT.p := congrArg Br.zu e; have E := jw (f := PtT.p) U; rw [← this] at E; obtain ⟨n, F, e⟩ := jv.1 E; have : n.id = p.id := congrArg Pt.id e; rw [← this]; exact h.pi y hy n F
 ·obtain ⟨y, hy, e⟩ := G x A
  have : y.zy = x.zy := congrArg Br.zy e; rw [← this] at H; exact h.ti y hy r H
theorem StRd.wf {P : Nat → Prop} {w : World} {t : StT} (h : StRd P w t) : StWf t :=
 ⟨h.n, h.ql, fun q E => (h.m q E).wf, fun b A => ⟨(h.e b A).wf.x0, (h.e b A).wf.x1⟩, fun b A p F => by
  have := (h.e b A).wf.p p.p (jw (f := PtT.p) F)
  exact ⟨this.1, this.2.1⟩, fun b A r D => (h.e b A).wf.t r D, h.hx⟩
structure OwR (w : World) (nx : Int) (hs : List He) (u : World) (qv bv hv : Value) (qs : List QuT) (zk : List BrT) : Prop where
 a : Blk u w.heap.size [.int .u64 nx, qv, bv, hv]
 r : Blk u (w.heap.size + 1) [.int .u64 0, .slice none 0 0, .slice none 0 0, .slice none 0 0]
 q : Own (w.heap.size + 2) 51 3 aar u qv qs
 b : Own (w.heap.size + 2) 62 5 aa7 u bv zk
 h : Own (w.heap.size + 2) 90 4 adp u hv hs
 B : Below w.heap.size w u
theorem OwR.upd {S : Nat → Prop} {w u F : World} {nx : Int} {hs : List He} {qv bv E : Value} {qs : List QuT} {zk : List BrT} (h : OwR w nx hs u qv bv E qs zk) (A : Upd S u F) (D : ∀ i, S i → w.heap.size + 1 < i) (H : ∀ k, qv.ownBlock = some k → ¬ S k) (I : ∀ k, bv.ownBlock = some k → ¬ S k) (G : ∀ k, E.ownBlock = some k → ¬ S k) : OwR w nx hs F qv bv E qs zk :=
 ⟨h.a.upd A (fun s => by have := D _ s; omega), h.r.upd A (fun s => by have := D _ s; omega), h.q.upd A H, h.b.upd A I, h.h.upd A G, h.B.trans (A.below h.B.size (fun b s => by have := D _ s; omega))⟩
theorem OwR.pure {w u D : World} {nx : Int} {hs : List He} {qv bv E : Value} {qs : List QuT} {zk : List BrT} (h : OwR w nx hs u qv bv E qs zk) (A : Below u.heap.size u D) : OwR w nx hs D qv bv E qs zk :=
 ⟨h.a.pure A, h.r.pure A, h.q.pure A, h.b.pure A, h.h.pure A, h.B.trans (A.mono h.B.size)⟩
theorem au0 (w : World) (t : StT) (P : Nat → Prop) (hR : StRd P w t) (hT : Tb w) (hS : StSm t) (cj : ∀ q ∈ t.qs, ∀ m ∈ q.zw, m.pr.p.smallB = true) (ch : ∀ b ∈ t.zk, (∀ p ∈ b.zu, p.pr.p.smallB = true) ∧ b.zu.length ≤ 1000000 ∧ b.zy.length ≤ 1000000) :
 Calls prog 29 #[t.arg] w fun e w' => ∃ t' : StT, e = .returned t'.arg ∧ t'.s = t.s ∧ StOw w.heap.size w' t' ∧ Below w.heap.size w w' := by
 have fo := qq hR.wf
 obtain ⟨nx, qa, qc, ba, bc, ha, hc, qs, zk, hs, rfl, -, -, -⟩ := hR.open
 rw [StT.arg_mk]
 have cc := qq hR
 have ev := qq (fun (u : World) (h : Below w.heap.size w u) => aug u (.slice qa qs.length qc) qs (cc.out.q.pure h) hS.q (fun x _ => aea x))
 have es := qq (fun (u : World) (h : Below w.heap.size w u) => auh u (.slice ba zk.length bc) zk (cc.out.b.pure h) hS.b (fun x _ => aeb x))
 have ei := qq (fun (u : World) (h : Below w.heap.size w u) => aui u (.slice ha hs.length hc) hs (cc.out.h.pure h) hS.h (fun x _ => anl x))
 have fv : qs.length ≤ 1000000 := hS.q
 have gg : zk.length ≤ 1000000 := hS.b
 obtain ⟨S0, cx⟩ := zj ((StT.mk nx (.slice qa qs.length qc) (.slice ba zk.length bc) (.slice ha hs.length hc) qs zk hs).s)
 rw [← cx]
 have dt := qq cx
 clear cx
 have cj : ∀ q ∈ qs, ∀ m ∈ q.zw, m.pr.p.smallB = true := cj
 have ch : ∀ b ∈ zk, (∀ p ∈ b.zu, p.pr.p.smallB = true) ∧ b.zu.length ≤ 1000000 ∧ b.zy.length ≤ 1000000 := ch
 have fh := qq hS; have fp := qq cj; have fl := qq ch; have el := qq hT
 clear hR hS cj ch hT
 go_enter func29, ntmps29
 go_upto_region 1 with fail
 have bn := ((qz w.heap.size w).alloc (qj _) (.cells #[.int .u64 nx, .slice qa qs.length qc, .slice ba zk.length bc, .slice ha hs.length hc] 27)).alloc (by simp) (.cells #[.int .u64 0, .slice none 0 0, .slice none 0 0, .slice none 0 0] 27)
 have A0 := (Blk.new w [.int .u64 nx, .slice qa qs.length qc, .slice ba zk.length bc, .slice ha hs.length hc] 27).alloc (.cells #[.int .u64 0, .slice none 0 0, .slice none 0 0, .slice none 0 0] 27)
 have R0 := Blk.newE (w.alloc (.cells #[.int .u64 nx, .slice qa qs.length qc, .slice ba zk.length bc, .slice ha hs.length hc] 27)) [.int .u64 0, .slice none 0 0, .slice none 0 0, .slice none 0 0] 27 (w.heap.size + 1) (by simp)
 have b3 : w.heap.size + 2 ≤ ((w.alloc (.cells #[.int .u64 nx, .slice qa qs.length qc, .slice ba zk.length bc, .slice ha hs.length hc] 27)).alloc (.cells #[.int .u64 0, .slice none 0 0, .slice none 0 0, .slice none 0 0] 27)).heap.size := by simp
 generalize ((w.alloc (.cells #[.int .u64 nx, .slice qa qs.length qc, .slice ba zk.length bc, .slice ha hs.length hc] 27)).alloc (.cells #[.int .u64 0, .slice none 0 0, .slice none 0 0, .slice none 0 0] 27)) = u0 at bn A0 R0 b3 ⊢
 obtain ⟨a0, a1, a2, a3⟩ := A0.a4
 have bt := A0.frozen 1; have bo := A0.frozen 2; have bp := A0.frozen 3
 have bn := aad bn; have A0 := A0.drew; have R0 := R0.drew; have b3 : w.heap.size + 2 ≤ u0.drew.heap.size := b3
 go_cut [] from 8 to 19 (fun wc => ∃ qv bv hv, OwR w nx hs wc qv bv hv qs zk)
 case first =>
  go_region_with (first | (go_at_call 81; (with_reducible refine (ev.out _ bn).mono ?_); rintro e u1 ⟨r1, rfl, O1, cn⟩; obtain ⟨x1, y1, z1, rfl⟩ := O1.shape3; have dc := bn.trans (cn.mono bn.size); have A1 := A0.pure cn; have R1 := R0.pure cn; have eh := jk b3 cn.size; (clear a0 a1 a2 a3 bt bo bp); obtain ⟨a0, a1, a2, a3⟩ := A1.a4; have bt := A1.frozen 1; have bo := A1.frozen 2; have bp := A1.frozen 3) | (go_at_call 82; (with_reducible refine (es.out _ dc).mono ?_); rintro e u2 ⟨r2, rfl, O2, b5⟩; obtain ⟨x2, y2, z2, rfl⟩ := O2.shape3; have cz := dc.trans (b5.mono dc.size); have A2 := A1.pure b5; have R2 := R1.pure b5; have eo := jk eh b5.size; (clear a0 a1 a2 a3 bt bo bp); obtain ⟨a0, a1, a2, a3⟩ := A2.a4; have bt := A2.frozen 1; have bo := A2.frozen 2; have bp := A2.frozen 3) | (go_at_call 83; (with_reducible refine (ei.out _ cz).mono ?_); rintro e u3 ⟨r3, rfl, G, bl⟩; obtain ⟨x3, y3, z3, rfl⟩ := G.shape3; have eb := cz.trans (bl.mono cz.size); have A3 := A2.pure bl; have R3 := R2.pure bl; have fq := jk eo bl.size; (clear a0 a1 a2 a3 bt bo bp); obtain ⟨a0, a1, a2, a3⟩ := A3.a4; have bt := A3.frozen 1; have bo := A3.frozen 2; have bp := A3.frozen 3))
  all_goals (go_wp2_with fail; go_meet; refine ⟨_, _, _, ((A3.set 1 _).set 2 _).set 3 _, ((R3.other _ _ (by simp)).other _ _ (by simp)).other _ _ (by simp), (((((O1.pure b5).pure bl).rebase (fun k e => jk b3 (((O1.pure b5).pure bl).ge e))).low _ _ _ (by omega)).low _ _ _ (by omega)).low _ _ _ (by omega), ((((O2.pure bl).rebase (fun k e => jk eh ((O2.pure bl).ge e))).low _ _ _ (by omega)).low _ _ _ (by omega)).low _ _ _ (by omega), (((G.rebase (fun k e => jk eo (G.ge e))).low _ _ _ (by omega)).low _ _ _ (by omega)).low _ _ _ (by omega), ?_⟩; exact eb.trans ((aba (S := fun k => k = w.heap.size) (aba (S := fun k => k = w.heap.size) (aba (S := fun k => k = w.heap.size) (Upd.refl (fun k => k = w.heap.size) u3) w.heap.size 1 _ rfl) w.heap.size 2 _ rfl) w.heap.size 3 _ rfl).below eb.size (fun k e => by have e : k = w.heap.size := e; omega)))
 case rest =>
  obtain ⟨qv, bv, hv, bi⟩ := hcut; obtain ⟨q2, e2, rfl, -⟩ := (bi.q.slc aaf).len; obtain ⟨b2, f2, rfl, -⟩ := (bi.b.slc aag).len; obtain ⟨h2, g2, rfl, -⟩ := (bi.h.slc adi).len
  have ck := qq (show ∀ k, Value.ownBlock (.slice q2 qs.length e2) = some k ∨ Value.ownBlock (.slice b2 zk.length f2) = some k ∨ Value.ownBlock (.slice h2 hs.length g2) = some k → k < wc.heap.size from fun k e => by
   rcases e with e | e | e
   ·exact bi.q.lt e
   ·exact bi.b.lt e
   ·exact bi.h.lt e)
  have fj : w.heap.size + 2 ≤ wc.heap.size := bi.r.lt; obtain ⟨a0, a1, a2, a3⟩ := bi.a.a4; clear A0 R0 bn b3 ev es ei bt bo bp; obtain ⟨lo, ed⟩ := zj wc.heap.size; rw [← ed] at ck fj; go_wp2; clear a0 a1 a2 a3; go_loopw [3, 4, 23] (fun s3 s4 da wr => ∃ (k : Nat) (aa : List QuT), k ≤ qs.length ∧ da = .int .i64 k ∧ aa.length = k ∧ Hid (aa.map QuT.q = (qs.take k).map QuT.q) ∧ OwR w nx hs wr (.slice q2 qs.length e2) (.slice b2 zk.length f2) (.slice h2 hs.length g2) (aa ++ qs.drop k) zk ∧ Hid (SegQ wr lo aa wr.heap.size)) (fun s3 s4 da _ => qs.length - (intOf da).toNat)
  case atStart => exact ⟨0, [], Nat.zero_le _, rfl, rfl, qq (by simp), by simpa using bi, qq (Nat.le_of_eq ed)⟩
  case round =>
   obtain ⟨k, aa, hk, rfl, ey, di, Y, hG⟩ := hrel; have hDlh := qq ey; clear ey bi; by_cases hkt : k < qs.length
   ·have fa : (k : Int) < (qs.length : Int) := by omega
    have hi : k < (aa ++ qs.drop k).length := by rw [jz, List.length_drop, hDlh.out]; omega
    have ai : (aa ++ qs.drop k)[k] = qs[k] := by
     rw [List.getElem_append_right (by rw [hDlh.out]; exact qj _)]; simp [hDlh.out]
    obtain ⟨g, rfl, hg⟩ := abr Y.q hi; have fk := ck.out g (.inl rfl); have b8 := cc.out.m qs[k] (qy hkt); have az := fp.out qs[k] (qy hkt); have cl := fh.out.m qs[k] (qy hkt); rcases I : qs[k] with ⟨N, U, mv, zw⟩; rw [I] at b8 az cl ai; obtain ⟨ma, mc, rfl, -⟩ : ∃ a c, mv = .slice a zw.length c ∧ zw.length ≤ maxLen := b8.s.len
    have dy : Slc abl 11 w (.slice ma zw.length mc) zw := b8.s; have ds : ∀ m ∈ zw, Rd P w m.pr.app := b8.r
    have az : ∀ m ∈ zw, m.pr.p.smallB = true := az
    have cl : zw.length ≤ 1000000 := cl; have c0 : wr.cell? ⟨g, k * 3, none⟩ = some (.string N) := Y.q.cell aaf k hi 0 _ (by rw [ai]; rfl); have c1 : wr.cell? ⟨g, k * 3 + 1, none⟩ = some (.int .u64 U) := Y.q.cell aaf k hi 1 _ (by rw [ai]; rfl); have c2 : wr.cell? ⟨g, k * 3 + 2, none⟩ = some (.slice ma zw.length mc) := Y.q.cell aaf k hi 2 _ (by rw [ai]; rfl); have e7 : w.heap.size + 2 ≤ wr.heap.size := Y.r.lt; have fb : lo ≤ wr.heap.size := hG.out.le; have br := Y.B; have dg := qq Y; have cs := qq I; have bd := qq ai; have dv := qq dy; have fc := qq ds; have co := qq az; clear Y I ai dy ds az b8; go_upto_region 5 with fail; have N0 := Blk.new wr [.string N, .int .u64 U, .slice ma zw.length mc] 51; have al := (qz wr.heap.size wr).alloc (qj _) (.cells #[.string N, .int .u64 U, .slice ma zw.length mc] 51); have cf := N0.lt; generalize wr.alloc (.cells #[.string N, .int .u64 U, .slice ma zw.length mc] 51) = u at N0 al cf ⊢; clear c0 c1 c2; have bq := br.trans (al.mono br.size); have ek := qq (auj u (.slice ma zw.length mc) zw (dv.out.pure bq) cl (fun x _ => ag5 x)); have n2 := N0.at 2 rfl; go_upto_region 6 with (go_at_call 84; (with_reducible refine ek.out.mono ?_); rintro e w5 ⟨r, rfl, hO, ct⟩; obtain ⟨H, en, F, rfl⟩ := hO.shape3; have N5 := N0.pure ct; (clear n2); have n2 := N5.at 2 rfl; have nf := N5.frozen 2); obtain rfl : en = zw.length := by obtain ⟨_, _, e, _⟩ := (hO.slc aac).len; injection e
    have N6 : Blk _ wr.heap.size [.string N, .int .u64 U, .slice H zw.length F] := N5.set 2 (.slice H zw.length F); have O6 := hO.low wr.heap.size 2 (.slice H zw.length F) cf; have dm := (al.trans (ct.mono al.size)).trans ((aba (S := fun k => k = wr.heap.size) (Upd.refl (fun k => k = wr.heap.size) w5) wr.heap.size 2 (.slice H zw.length F) rfl).below (jk al.size ct.size) (fun b e => by have e : b = wr.heap.size := e; omega)); generalize w5.setCell ⟨wr.heap.size, 2, none⟩ (.slice H zw.length F) = w6 at N6 O6 dm ⊢; clear N5 N0 n2 nf hO ek dv; have et := qq O6; have b4 := al.size; have n2 := N6.at 2 rfl; go_wp2; clear n2 O6; obtain ⟨lu, fn⟩ := zj u.heap.size; rw [← fn] at et b4 cf; obtain ⟨wo, rfl⟩ := zj wr; go_loopw [5, 35] (fun s5 dj wr => ∃ (j : Nat) (E : List MsT), j ≤ zw.length ∧ dj = .int .i64 j ∧ E.length = j ∧ Hid (E.map MsT.m = (zw.take j).map MsT.m) ∧ Own lu 60 11 abl wr (.slice H zw.length F) (E ++ zw.drop j) ∧ Hid (∀ x ∈ E, Rd (fun i => lu ≤ i ∧ Value.ownBlock (.slice H zw.length F) ≠ some i) wr x.pr.app) ∧ Upd (fun i => lu ≤ i) w6 wr) (fun s5 dj _ => zw.length - (intOf dj).toNat)
    case atStart => exact ⟨0, [], Nat.zero_le _, rfl, rfl, qq (by simp), by simpa using et.out, qq (fun x I => by cases I), Upd.refl _ _⟩
    case round =>
     obtain ⟨j, E, hj, rfl, ep, dn, bu, er, hU⟩ := hrel; have b1 := qq ep; clear ep; have cm := dm.trans (hU.below dm.size (fun b e => by have e : lu ≤ b := e; omega)); have ej := br.trans (cm.mono br.size); have N7 := N6.upd hU (fun e => by have e : lu ≤ wo.heap.size := e; omega); by_cases ci : j < zw.length
     ·have fs : (j : Int) < (zw.length : Int) := by omega
      have O : j < (E ++ zw.drop j).length := by rw [jz, List.length_drop, b1.out]; omega
      have de : (E ++ zw.drop j)[j] = zw[j] := by
       rw [List.getElem_append_right (by rw [b1.out]; exact qj _)]; simp [b1.out]
      obtain ⟨v, rfl, hv⟩ := abr bu O; have fu : v < wr.heap.size := bu.lt rfl; have b6 := (fc.out zw[j] (qy ci)).lt.pure ej; have az := co.out zw[j] (qy ci); rcases hx2 : zw[j] with ⟨id, ⟨key, dk, red, mid, tv⟩, bx⟩; rw [hx2] at b6 az de; have b6 : Rd _ _ tv := b6; obtain ⟨uk, un, us, dp, dq, dh, cy, ca, ul, rfl, -⟩ := b6.open; have cr := fun (u : World) (h : Below wr.heap.size wr u) => afa (PT.mk key dk red mid (VT.mk uk un us (.slice dp ca.length dq) (.slice dh ul.length cy) ca ul)) _ u (b6.pure h) az ((el.out.pure ej).pure h)
      obtain ⟨bi, hX⟩ := qx ((PT.mk key dk red mid (VT.mk uk un us (.slice dp ca.length dq) (.slice dh ul.length cy) ca ul)).p); rw [PT.arg_mk, hX] at cr; have e0 := qq cr; have fr := qq hX; have fd := qq hx2; have X := qq de; have Oh := qq bu; have c1 : wr.cell? ⟨v, j * 11 + 1, none⟩ = some (.string key) := Oh.out.cell aac j O 1 _ (by rw [X.out]; rfl); have c2 : wr.cell? ⟨v, j * 11 + 2, none⟩ = some (.bool dk) := Oh.out.cell aac j O 2 _ (by rw [X.out]; rfl); have c3 : wr.cell? ⟨v, j * 11 + 3, none⟩ = some (.bool red) := Oh.out.cell aac j O 3 _ (by rw [X.out]; rfl); have c4 : wr.cell? ⟨v, j * 11 + 4, none⟩ = some (.string mid) := Oh.out.cell aac j O 4 _ (by rw [X.out]; rfl); have c5 : wr.cell? ⟨v, j * 11 + 5, none⟩ = some (.int .u8 uk) := Oh.out.cell aac j O 5 _ (by rw [X.out]; rfl); have c6 : wr.cell? ⟨v, j * 11 + 6, none⟩ = some (.int .u64 un) := Oh.out.cell aac j O 6 _ (by rw [X.out]; rfl); have c7 : wr.cell? ⟨v, j * 11 + 7, none⟩ = some (.string us) := Oh.out.cell aac j O 7 _ (by rw [X.out]; rfl); have c8 : wr.cell? ⟨v, j * 11 + 8, none⟩ = some (.slice dp ca.length dq) := Oh.out.cell aac j O 8 _ (by rw [X.out]; rfl); have c9 : wr.cell? ⟨v, j * 11 + 9, none⟩ = some (.slice dh ul.length cy) := Oh.out.cell aac j O 9 _ (by rw [X.out]; rfl); clear cr hX hx2 de b6 az bu; go_upto_region 9 with fail; have dz : wo.heap.size ≠ v := fun e => by omega
      have hb := (Upd.refl (fun k => k = v) wr).drew; refine wp_region_held_drew (S := fun u => Upd (fun k => k = v) wr u) (by kernel_rfl) hb (fun D => ?_); refine tkH 0 D ?_; refine tkF 1 D ?_ (fun v bh => (N7.upd bh dz).at 2 rfl); refine tkH 2 D ?_; refine tkH 3 D ?_; refine tkF 4 D ?_ (fun v bh => (N7.upd bh dz).at 2 rfl); refine tkH 5 D ?_; refine tkH 6 D ?_; refine tkH 7 D ?_; refine aai 8 rfl (fun Kq ae => ?_); go_simp; refine ae.out _ _ hb (fun D => ?_); clear ae Kq; (try simp only [Act.put, lsT, lsZ, lsS]); refine aai 9 rfl (fun Kq ae => ?_); go_simp
      (go_at_call 85; (with_reducible refine (e0.out _ (aad (qz _ _))).mono ?_); rintro e w3 ⟨⟨aw, av, ao, am, fm⟩, rfl, cw, b7, ak⟩; have b7 : Rd _ _ fm := b7; obtain ⟨ay, bb, ax, aq, ar, au, an, Z, z, rfl, -⟩ := b7.open; rw [PT.arg_mk])
      have cw := qq cw; have ak : Below wr.heap.size wr w3 := (aad (qz _ _)).trans ak; have b7 : Rd (fun i => wr.heap.size ≤ i) w3 _ := b7; have G := Oh.out.pure ak; have hb : Upd (fun k => k = v) wr w3 := Upd.of_below ak; refine ae.out _ _ hb (fun D => ?_); clear ae Kq; (try simp only [Act.put, lsT, lsZ, lsS]); refine tkH 10 D ?_; refine tkH 11 D ?_; have g1 := G.frozen (j * 11 + 1); have g2 := G.frozen (j * 11 + 2); have g3 := G.frozen (j * 11 + 3); have g4 := G.frozen (j * 11 + 4); have g5 := G.frozen (j * 11 + 5); have g6 := G.frozen (j * 11 + 6); have g7 := G.frozen (j * 11 + 7); have g8 := G.frozen (j * 11 + 8); have g9 := G.frozen (j * 11 + 9); have d1 := G.cell aac j O 1 _ (by rw [X.out]; rfl); have d2 := G.cell aac j O 2 _ (by rw [X.out]; rfl); have d3 := G.cell aac j O 3 _ (by rw [X.out]; rfl); have d4 := G.cell aac j O 4 _ (by rw [X.out]; rfl); have d5 := G.cell aac j O 5 _ (by rw [X.out]; rfl); have d6 := G.cell aac j O 6 _ (by rw [X.out]; rfl); have d7 := G.cell aac j O 7 _ (by rw [X.out]; rfl); have d8 := G.cell aac j O 8 _ (by rw [X.out]; rfl); have d9 := G.cell aac j O 9 _ (by rw [X.out]; rfl); refine aai 12 rfl (fun Kq ae => ?_); go_simp; have hb : Upd (fun k => k = v) wr (aam w3 v (j * 11 + 1) [.string aw, .bool av, .bool ao, .string am, .int .u8 ay, .int .u64 bb, .string ax, .slice aq Z.length ar, .slice au z.length an]) := hb.trans (ab6 v [.string aw, .bool av, .bool ao, .string am, .int .u8 ay, .int .u64 bb, .string ax, .slice aq Z.length ar, .slice au z.length an] (j * 11 + 1) w3) (fun _ e _ => e); refine ae.out _ _ hb (fun D => ?_); clear ae Kq; (try simp only [Act.put, lsT, lsZ, lsS]); refine wpAnyH_done (by kernel_rfl) ?_ _; have bk := G.sets aac j O 1 [.string aw, .bool av, .bool ao, .string am, .int .u8 ay, .int .u64 bb, .string ax, .slice aq Z.length ar, .slice au z.length an] (by simp) (MsT.mk id (PT.mk aw av ao am (VT.mk ay bb ax (.slice aq Z.length ar) (.slice au z.length an) Z z)) bx) (by rw [X.out]; rfl)
      have b9 : (E ++ zw.drop j).set j (MsT.mk id (PT.mk aw av ao am (VT.mk ay bb ax (.slice aq Z.length ar) (.slice au z.length an) Z z)) bx) = (E ++ [(MsT.mk id (PT.mk aw av ao am (VT.mk ay bb ax (.slice aq Z.length ar) (.slice au z.length an) Z z)) bx)]) ++ zw.drop (j + 1) := by
       rw [List.set_append_right _ _ (by rw [b1.out]; exact qj _), b1.out, Nat.sub_self, List.drop_eq_getElem_cons ci, List.set_cons_zero, List.append_assoc]; rfl
      rw [b9] at bk; have A := ab6 v [.string aw, .bool av, .bool ao, .string am, .int .u8 ay, .int .u64 bb, .string ax, .slice aq Z.length ar, .slice au z.length an] (j * 11 + 1) w3; have dx : Upd (fun i => lu ≤ i) w6 (aam w3 v (j * 11 + 1) [.string aw, .bool av, .bool ao, .string am, .int .u8 ay, .int .u64 bb, .string ax, .slice aq Z.length ar, .slice au z.length an]) := (hU.trans (Upd.of_below ak) (fun b e _ => e)).trans A (fun b e _ => by have e : b = v := e; show lu ≤ b; omega)
      have du := qq (show ∀ x ∈ E ++ [(MsT.mk id (PT.mk aw av ao am (VT.mk ay bb ax (.slice aq Z.length ar) (.slice au z.length an) Z z)) bx)], Rd (fun i => lu ≤ i ∧ Value.ownBlock (.slice (some ⟨v, 0, none⟩) zw.length F) ≠ some i) (aam w3 v (j * 11 + 1) [.string aw, .bool av, .bool ao, .string am, .int .u8 ay, .int .u64 bb, .string ax, .slice aq Z.length ar, .slice au z.length an]) x.pr.app from fun x I => by
       rcases List.mem_append.1 I with I | I
       ·exact ((er.out x I).pure ak).upd A (fun i hi e => hi.2 (by rw [show i = v from e]; rfl))
       ·rw [jc.1 I]
        exact (b7.upd A (fun i hi e => by have e : i = v := e; omega)).weaken (fun i _ hi => ⟨by have := hv; omega, fun e => jp (show v = i by simpa [Value.ownBlock] using e) (by omega)⟩))
      have e9 := qq (show (E ++ [(MsT.mk id (PT.mk aw av ao am (VT.mk ay bb ax (.slice aq Z.length ar) (.slice au z.length an) Z z)) bx)]).map MsT.m = (zw.take (j + 1)).map MsT.m by
       rw [List.map_append, dn.out, jx ci, List.map_append]; congr 1; rw [List.map_singleton, List.map_singleton, fd.out]; unfold MsT.m; dsimp only
       rw [cw.out, ← fr.out])
      unfold aam aam aam aam aam aam aam aam aam aam at bk du dx; go_wp2; go_roundw
      case rel => exact ⟨j + 1, E ++ [(MsT.mk id (PT.mk aw av ao am (VT.mk ay bb ax (.slice aq Z.length ar) (.slice au z.length an) Z z)) bx)], by omega, by go_num, by rw [jz, b1.out]; rfl, e9, bk, du, dx⟩
      case measure => simp [intOf]; omega
     ·obtain rfl : j = zw.length := by omega
      rw [List.drop_length, List.append_nil] at bu; rw [js] at dn; have Y7 := dg.out.pure cm; have O7 := bu; obtain ⟨a0, a1, a2, a3⟩ := Y7.a.a4; obtain ⟨n0, n1, n2⟩ := N7.a3; have gh := Y7.q.frozen (k * 3); have f1 := Y7.q.frozen (k * 3 + 1); have gd := Y7.q.frozen (k * 3 + 2); have d0 : wr.cell? ⟨g, k * 3, none⟩ = some (.string N) := Y7.q.cell aaf k hi 0 _ (by rw [bd.out]; rfl); have d1 : wr.cell? ⟨g, k * 3 + 1, none⟩ = some (.int .u64 U) := Y7.q.cell aaf k hi 1 _ (by rw [bd.out]; rfl); have d2 : wr.cell? ⟨g, k * 3 + 2, none⟩ = some (.slice ma zw.length mc) := Y7.q.cell aaf k hi 2 _ (by rw [bd.out]; rfl); have bg := qq Y7; clear Y7 bu; go_wp2; have bk : Own (w.heap.size + 2) 51 3 aar (aam wr g (k * 3) [.string N, .int .u64 U, .slice H zw.length F]) (.slice (some ⟨g, 0, none⟩) qs.length e2) ((aa ++ qs.drop k).set k (QuT.mk N U (.slice H zw.length F) E)) := bg.out.q.sets aaf k hi 0 [.string N, .int .u64 U, .slice H zw.length F] (by simp) (QuT.mk N U (.slice H zw.length F) E) (by rw [bd.out]; rfl)
      have b9 : (aa ++ qs.drop k).set k (QuT.mk N U (.slice H zw.length F) E) = (aa ++ [(QuT.mk N U (.slice H zw.length F) E)]) ++ qs.drop (k + 1) := by
       exact ajy
      rw [b9] at bk; have A := ab6 g [.string N, .int .u64 U, .slice H zw.length F] (k * 3) wr
      have cb : OwR w nx hs (aam wr g (k * 3) [.string N, .int .u64 U, .slice H zw.length F]) (.slice (some ⟨g, 0, none⟩) qs.length e2) (.slice b2 zk.length f2) (.slice h2 hs.length g2) ((aa ++ [(QuT.mk N U (.slice H zw.length F) E)]) ++ qs.drop (k + 1)) zk :=
       ⟨bg.out.a.upd A (fun e => by have e : w.heap.size = g := e; omega), bg.out.r.upd A (fun e => by have e : w.heap.size + 1 = g := e; omega), bk, bg.out.b.upd A (fun i hi e => aaz bg.out.q bg.out.b (by decide) (show Value.ownBlock (.slice (some ⟨g, 0, none⟩) qs.length e2) = some i by rw [show i = g from e]; rfl) hi), bg.out.h.upd A (fun i hi e => aaz bg.out.q bg.out.h (by decide) (show Value.ownBlock (.slice (some ⟨g, 0, none⟩) qs.length e2) = some i by rw [show i = g from e]; rfl) hi), bg.out.B.trans (A.below bg.out.B.size (fun b e => by have e : b = g := e; omega))⟩
      have hM : MsI (aam wr g (k * 3) [.string N, .int .u64 U, .slice H zw.length F]) wo.heap.size (aam wr g (k * 3) [.string N, .int .u64 U, .slice H zw.length F]).heap.size (.slice H zw.length F) E :=
       ⟨(O7.rebase (fun i e => jk b4 (O7.ge e))).upd A (fun i hi e => by have e : i = g := e; have := O7.ge hi; omega), fun i e => jg (O7.lt e) A.size, jk cm.size A.size, fun x I => ((er.out x I).upd A (fun i hi e => by have e : i = g := e; have := hi.1; omega)).lt.weaken (fun i _ hi => ⟨jk b4 hi.1.1, hi.2, hi.1.2⟩)⟩
      have cd := qq (SegQ.snoc (q := (QuT.mk N U (.slice H zw.length F) E)) ((hG.out.upd (S := fun _ => False) (Upd.of_below cm) (fun _ _ _ h => h)).upd A (fun i h1 _ e => by have e : i = g := e; omega)) hM)
      have e5 := qq (show (aa ++ [(QuT.mk N U (.slice H zw.length F) E)]).map QuT.q = (qs.take (k + 1)).map QuT.q by
       rw [List.map_append, di.out, jx hkt, List.map_append]; congr 1; rw [List.map_singleton, List.map_singleton, cs.out]; unfold QuT.q; dsimp only
       rw [dn.out])
      unfold aam aam aam aam at cb cd; go_roundw
      case rel => exact ⟨k + 1, aa ++ [(QuT.mk N U (.slice H zw.length F) E)], by omega, by go_num, by rw [jz, hDlh.out]; rfl, e5, cb, cd⟩
      case measure => simp [intOf]; omega
   ·obtain rfl : k = qs.length := by omega
    rw [List.drop_length, List.append_nil] at Y; rw [js] at di; obtain ⟨wq, rfl⟩ := zj wr; obtain ⟨a0, a1, a2, a3⟩ := Y.a.a4; have ff := hG.out.le; obtain ⟨mid, dw⟩ := zj wq.heap.size; rw [← dw] at hG ff; go_wp2; clear a0 a1 a2 a3; go_loopw [6, 7, 60] (fun s6 s7 db wr => ∃ (k : Nat) (aj : List BrT), k ≤ zk.length ∧ db = .int .i64 k ∧ aj.length = k ∧ Hid (aj.map BrT.b = (zk.take k).map BrT.b) ∧ OwR w nx hs wr (.slice q2 qs.length e2) (.slice b2 zk.length f2) (.slice h2 hs.length g2) aa (aj ++ zk.drop k) ∧ Hid (SegQ wr lo aa mid) ∧ Hid (SegB wr mid aj wr.heap.size)) (fun s6 s7 db _ => zk.length - (intOf db).toNat)
    case atStart => exact ⟨0, [], Nat.zero_le _, rfl, rfl, qq (by simp), by simpa using Y, hG, qq (Nat.le_of_eq dw)⟩
    case round =>
     clear Y hG; obtain ⟨k, aj, hk, rfl, ex, cu, Y, hG, dd⟩ := hrel; have b0 := qq ex; clear ex; by_cases hkt : k < zk.length
     ·have fa : (k : Int) < (zk.length : Int) := by omega
      have hi : k < (aj ++ zk.drop k).length := by rw [jz, List.length_drop, b0.out]; omega
      have ai : (aj ++ zk.drop k)[k] = zk[k] := by
       rw [List.getElem_append_right (by rw [b0.out]; exact qj _)]; simp [b0.out]
      obtain ⟨g, rfl, hg⟩ := abr Y.b hi; have fk := ck.out g (.inr (.inl rfl)); have bm := cc.out.e zk[k] (qy hkt); have eg := fl.out zk[k] (qy hkt); rcases I : zk[k] with ⟨⟨M, J, K⟩, pv, tv, zu, W⟩; rw [I] at bm eg ai; obtain ⟨pa, pc, rfl, -⟩ : ∃ a c, pv = .slice a zu.length c ∧ zu.length ≤ maxLen := bm.p.len
      obtain ⟨ta, tc, rfl, -⟩ : ∃ a c, tv = .slice a W.length c ∧ W.length ≤ maxLen := bm.s.len
      have ee : Slc aat 12 w (.slice pa zu.length pc) zu := bm.p; have ef : Slc abc 2 w (.slice ta W.length tc) W := bm.s; have ew : ∀ p ∈ zu, Rd P w p.pr.app := bm.r
      obtain ⟨az, fi, fg⟩ : (∀ p ∈ zu, p.pr.p.smallB = true) ∧ zu.length ≤ 1000000 ∧ W.length ≤ 1000000 := eg; have c0 : wr.cell? ⟨g, k * 5, none⟩ = some (.int .u32 M) := Y.b.cell aag k hi 0 _ (by rw [ai]; rfl); have c1 : wr.cell? ⟨g, k * 5 + 1, none⟩ = some (.string J) := Y.b.cell aag k hi 1 _ (by rw [ai]; rfl); have c2 : wr.cell? ⟨g, k * 5 + 2, none⟩ = some (.string K) := Y.b.cell aag k hi 2 _ (by rw [ai]; rfl); have c3 : wr.cell? ⟨g, k * 5 + 3, none⟩ = some (.slice pa zu.length pc) := Y.b.cell aag k hi 3 _ (by rw [ai]; rfl); have c4 : wr.cell? ⟨g, k * 5 + 4, none⟩ = some (.slice ta W.length tc) := Y.b.cell aag k hi 4 _ (by rw [ai]; rfl); have e7 : w.heap.size + 2 ≤ wr.heap.size := Y.r.lt; have fb : mid ≤ wr.heap.size := dd.out.le; have br := Y.B; have dg := qq Y; have cs := qq I; have bd := qq ai; have e3 := qq ee; have e6 := qq ef; have fe := qq ew; have co := qq az; clear Y I ai ee ef ew az bm; go_upto_region 16 with fail; have N0 := Blk.new wr [.int .u32 M, .string J, .string K, .slice pa zu.length pc, .slice ta W.length tc] 62; have al := (qz wr.heap.size wr).alloc (qj _) (.cells #[.int .u32 M, .string J, .string K, .slice pa zu.length pc, .slice ta W.length tc] 62); have cf := N0.lt; generalize wr.alloc (.cells #[.int .u32 M, .string J, .string K, .slice pa zu.length pc, .slice ta W.length tc] 62) = u at N0 al cf ⊢; clear c0 c1 c2 c3 c4; have bq := br.trans (al.mono br.size); have e4 := qq (fun (bw : World) (h : Below u.heap.size u bw) => ajz bw (.slice pa zu.length pc) zu (fun b => P b ∧ b < w.heap.size) ((e3.out.pure bq).pure h) (fun x I => ((fe.out x I).lt.pure bq).pure h) (fun i hi => jg hi.2 (jk bq.size h.size)) co.out ((el.out.pure bq).pure h) fi); have e8 := qq (fun (bw : World) (h : Below u.heap.size u bw) => anp bw (.slice ta W.length tc) W ((e6.out.pure bq).pure h) fg (fun x _ => ae8 x)); have em := qq (dg.out.pure al); have eu : w.heap.size ≠ g := fun e => by omega
      have dl : wr.heap.size ≠ g := fun e => by omega
      have AU := em.out.a; have hb := (Upd.refl (fun k => k = g) u).drew; refine wp_region_held_drew (S := fun bw => Upd (fun k => k = g) u bw) (by kernel_rfl) hb (fun D => ?_); refine tkH 0 D ?_; refine tkF 1 D ?_ (fun v bh => (AU.upd bh eu).at 2 rfl); refine tkH 2 D ?_; refine tkH 3 D ?_; refine tkF 4 D ?_ (fun v bh => (N0.upd bh dl).a3); refine tkH 5 D ?_; refine tkF 6 D ?_ (fun v bh => (N0.upd bh dl).at 3 rfl); refine tkH 8 D ?_; refine tkF 9 D ?_ (fun v bh => (N0.upd bh dl).at 4 rfl); refine aai 7 rfl (fun Kq ae => ?_); go_simp
      (go_at_call 86; (with_reducible refine (e4.out _ (aad (qz _ _))).mono ?_); rintro e w3 ⟨v3, bj, rfl, df, cg, ak⟩; obtain ⟨ac, ab, ad, rfl⟩ := cg.o.shape3)
      have df := qq df; have ak : Below u.heap.size u w3 := (aad (qz _ _)).trans ak; have cg : OwL 64 12 aat (fun x => x.pr.app) u.heap.size w3 _ bj := cg; have hb : Upd (fun k => k = g) u w3 := Upd.of_below ak; refine ae.out _ _ hb (fun D => ?_); clear ae Kq; (try simp only [Act.put, lsT, lsZ, lsS]); refine aai 10 rfl (fun Kq ae => ?_); go_simp
      (go_at_call 87; (with_reducible refine (e8.out _ ak).mono ?_); rintro e w4 ⟨r4, rfl, ce, cv⟩; obtain ⟨ah, ag, af, rfl⟩ := ce.shape3)
      have cp := ak.trans (cv.mono ak.size); have hb : Upd (fun k => k = g) u w4 := Upd.of_below cp; have Y4 := em.out.pure cp; have fq := ak.size; refine ae.out _ _ hb (fun D => ?_); clear ae Kq; (try simp only [Act.put, lsT, lsZ, lsS]); refine tkH 11 D ?_; refine tkH 12 D ?_; have ga := Y4.b.frozen (k * 5); have gc := Y4.b.frozen (k * 5 + 1); have f0 := Y4.b.frozen (k * 5 + 2); have ft := Y4.b.frozen (k * 5 + 3); have gb := Y4.b.frozen (k * 5 + 4); have d0 : w4.cell? ⟨g, k * 5, none⟩ = some (.int .u32 M) := Y4.b.cell aag k hi 0 _ (by rw [bd.out]; rfl); have d1 : w4.cell? ⟨g, k * 5 + 1, none⟩ = some (.string J) := Y4.b.cell aag k hi 1 _ (by rw [bd.out]; rfl); have d2 : w4.cell? ⟨g, k * 5 + 2, none⟩ = some (.string K) := Y4.b.cell aag k hi 2 _ (by rw [bd.out]; rfl); have d3 : w4.cell? ⟨g, k * 5 + 3, none⟩ = some (.slice pa zu.length pc) := Y4.b.cell aag k hi 3 _ (by rw [bd.out]; rfl); have d4 : w4.cell? ⟨g, k * 5 + 4, none⟩ = some (.slice ta W.length tc) := Y4.b.cell aag k hi 4 _ (by rw [bd.out]; rfl); have bf := qq Y4; clear Y4; refine aai 13 rfl (fun Kq ae => ?_); go_simp; have hb : Upd (fun k => k = g) u (aam w4 g (k * 5) [.int .u32 M, .string J, .string K, .slice ac ab ad, .slice ah ag af]) := hb.trans (ab6 g [.int .u32 M, .string J, .string K, .slice ac ab ad, .slice ah ag af] (k * 5) w4) (fun _ e _ => e); refine ae.out _ _ hb (fun D => ?_); clear ae Kq; (try simp only [Act.put, lsT, lsZ, lsS]); refine wpAnyH_done (by kernel_rfl) ?_ _; have bk : Own (w.heap.size + 2) 62 5 aa7 (aam w4 g (k * 5) [.int .u32 M, .string J, .string K, .slice ac ab ad, .slice ah ag af]) (.slice (some ⟨g, 0, none⟩) zk.length f2) ((aj ++ zk.drop k).set k (BrT.mk (M, J, K) (.slice ac ab ad) (.slice ah ag af) bj W)) := bf.out.b.sets aag k hi 0 [.int .u32 M, .string J, .string K, .slice ac ab ad, .slice ah ag af] (by simp) (BrT.mk (M, J, K) (.slice ac ab ad) (.slice ah ag af) bj W) (by rw [bd.out]; rfl)
      have b9 : (aj ++ zk.drop k).set k (BrT.mk (M, J, K) (.slice ac ab ad) (.slice ah ag af) bj W) = (aj ++ [(BrT.mk (M, J, K) (.slice ac ab ad) (.slice ah ag af) bj W)]) ++ zk.drop (k + 1) := by
       rw [List.set_append_right _ _ (by rw [b0.out]; exact qj _), b0.out, Nat.sub_self, List.drop_eq_getElem_cons hkt, List.set_cons_zero, List.append_assoc]; rfl
      rw [b9] at bk; have A := ab6 g [.int .u32 M, .string J, .string K, .slice ac ab ad, .slice ah ag af] (k * 5) w4; have cq := al.trans (cp.mono al.size)
      have cb : OwR w nx hs (aam w4 g (k * 5) [.int .u32 M, .string J, .string K, .slice ac ab ad, .slice ah ag af]) (.slice q2 qs.length e2) (.slice (some ⟨g, 0, none⟩) zk.length f2) (.slice h2 hs.length g2) aa ((aj ++ [(BrT.mk (M, J, K) (.slice ac ab ad) (.slice ah ag af) bj W)]) ++ zk.drop (k + 1)) :=
       ⟨bf.out.a.upd A eu, bf.out.r.upd A (fun e => by have e : w.heap.size + 1 = g := e; omega), bf.out.q.upd A (fun i hi e => aaz bf.out.b bf.out.q (by decide) (show Value.ownBlock (.slice (some ⟨g, 0, none⟩) zk.length f2) = some i by rw [show i = g from e]; rfl) hi), bk, bf.out.h.upd A (fun i hi e => aaz bf.out.b bf.out.h (by decide) (show Value.ownBlock (.slice (some ⟨g, 0, none⟩) zk.length f2) = some i by rw [show i = g from e]; rfl) hi), bf.out.B.trans (A.below bf.out.B.size (fun b e => by have e : b = g := e; omega))⟩
      have b4 := al.size; have OP := cg.o.pure cv
      have hM : PtI (aam w4 g (k * 5) [.int .u32 M, .string J, .string K, .slice ac ab ad, .slice ah ag af]) wr.heap.size (aam w4 g (k * 5) [.int .u32 M, .string J, .string K, .slice ac ab ad, .slice ah ag af]).heap.size (.slice ac ab ad) bj :=
       ⟨(OP.rebase (fun i e => jk b4 (OP.ge e))).upd A (fun i hi e => by have e : i = g := e; have := OP.ge hi; omega), fun i e => jg (OP.lt e) A.size, jk cq.size A.size, fun x I => (((cg.r x I).pure cv).upd A (fun i hi e => by have e : i = g := e; have := hi.1; omega)).lt.weaken (fun i _ hi => ⟨jk b4 hi.1.1, hi.2, hi.1.2⟩)⟩
      have dr := qq (SegB.snoc (q := (BrT.mk (M, J, K) (.slice ac ab ad) (.slice ah ag af) bj W)) ((dd.out.upd (S := fun _ => False) (Upd.of_below cq) (fun _ _ _ h => h)).upd A (fun i h1 _ e => by have e : i = g := e; omega)) hM ((ce.rebase (fun i e => by have := ce.ge e; omega)).upd A (fun i hi e => by have e : i = g := e; have := ce.ge hi; omega)) (fun i e => jg (ce.lt e) A.size)); have cd := qq ((hG.out.upd (S := fun _ => False) (Upd.of_below cq) (fun _ _ _ h => h)).upd A (fun i h1 _ e => by have e : i = g := e; omega))
      have e1 := qq (show (aj ++ [(BrT.mk (M, J, K) (.slice ac ab ad) (.slice ah ag af) bj W)]).map BrT.b = (zk.take (k + 1)).map BrT.b by
       rw [List.map_append, cu.out, jx hkt, List.map_append]; congr 1; rw [List.map_singleton, List.map_singleton, cs.out]; unfold BrT.b; dsimp only
       rw [df.out])
      unfold aam aam aam aam aam aam at cb cd dr; go_wp2; go_roundw
      case rel => exact ⟨k + 1, aj ++ [(BrT.mk (M, J, K) (.slice ac ab ad) (.slice ah ag af) bj W)], by omega, by go_num, by rw [jz, b0.out]; rfl, e1, cb, cd, dr⟩
      case measure => simp [intOf]; omega
     ·obtain rfl : k = zk.length := by omega
      rw [List.drop_length, List.append_nil] at Y; rw [js] at cu; obtain ⟨a0, a1, a2, a3⟩ := Y.a.a4; obtain ⟨r0, r1, r2, r3⟩ := Y.r.a4; obtain ⟨fz, fw, fx, gf⟩ := Y.r.f4; have Yh := qq Y; have fy := Y.r.lt; clear Y; go_wp2; have hU := Upd.ent4 wr (w.heap.size + 1) (.int .u64 nx) (.slice q2 qs.length e2) (.slice b2 zk.length f2) (.slice h2 hs.length g2); have ez := Yh.out.r.ent4 (.int .u64 nx) (.slice q2 qs.length e2) (.slice b2 zk.length f2) (.slice h2 hs.length g2); unfold ent4 at hU ez; obtain ⟨k0, k1, k2, k3⟩ := ez.a4; refine bodyPost_ret (by simp [results, Tryz.results29, go_sem, k0, k1, k2, k3]; rfl) rfl ?_
      have eq : (StT.mk nx (.slice q2 qs.length e2) (.slice b2 zk.length f2) (.slice h2 hs.length g2) aa aj hs).s = S0 := by
       rw [dt.out]; unfold StT.s; dsimp only; rw [di.out, cu.out]
      refine ⟨StT.mk nx (.slice q2 qs.length e2) (.slice b2 zk.length f2) (.slice h2 hs.length g2) aa aj hs, rfl, eq, StOw.mk' (B1 := w.heap.size + 2) (lo := lo) (mid := mid) (hi := wr.heap.size) (Yh.out.q.upd hU (fun i hi e => by have e : i = w.heap.size + 1 := e; have := Yh.out.q.ge hi; omega)) (Yh.out.b.upd hU (fun i hi e => by have e : i = w.heap.size + 1 := e; have := Yh.out.b.ge hi; omega)) (Yh.out.h.upd hU (fun i hi e => by have e : i = w.heap.size + 1 := e; have := Yh.out.h.ge hi; omega)) ck.out (hG.out.upd hU (fun i h1 _ e => by have e : i = w.heap.size + 1 := e; omega)) (dd.out.upd hU (fun i h1 _ e => by have e : i = w.heap.size + 1 := e; omega)) (by omega) (by omega) (fo.out.of_s (by rw [eq, dt.out])), Yh.out.B.trans (hU.below Yh.out.B.size (fun b e => by have e : b = w.heap.size + 1 := e; omega))⟩
open Go.RowKit Go.ChangeMaps Go.MapKept Tryz
theorem au1 (w : World) (v : Value) : (Instr.typeAssert (.iface 41 v) 20 41 false).run prog w = .ok v w := by kernel_rfl
abbrev OutS (b : Nat) : Nat → Prop := fun k => k = b ∨ k = b + 1
theorem au2 (w : World) (b : Nat) :
 CallsD prog 28 #[.pointer (some ⟨b, 0, none⟩), .pointer (some ⟨b + 1, 0, none⟩)] .returning w fun e D w' => e = .returned (.tuple #[]) ∧ D = .returning ∧ w' = w := by
 refine callsD_of_wpS func28 rfl fun A F E => ?_
 show Code.wpS prog _ _ { tmps := #[.pointer (some ⟨b, 0, none⟩), .pointer (some ⟨b + 1, 0, none⟩), undef, undef, undef, undef, undef, undef, undef], defers := [] } _ _
 apply wpS_seq
 apply wpS_region
 simp [wpOpsS, go_sem, recoverD, E, Exit.thenS]
 refine wpS_of_wp ?_
 go_wp2
 cases A
 simp_all [bodyPostS, results, Tryz.results28]
theorem aky (w : World) (b : Nat) (e : Int) (I K N F J : Value) (D : Blk w b [I, K, N, F]) (A : Blk w (b + 1) [J]) :
 CallsD prog 28 #[.pointer (some ⟨b, 0, none⟩), .pointer (some ⟨b + 1, 0, none⟩)] (.panicking [{ v := .iface 41 (.int .i64 e), recovered := false }]) w fun r M w' => r = .returned (.tuple #[]) ∧ M = .panicking [{ v := .iface 41 (.int .i64 e), recovered := true }] ∧ Blk w' b [.int .u64 0, .slice none 0 0, .slice none 0 0, .slice none 0 0] ∧ Blk w' (b + 1) [.int .i64 e] ∧ Upd (OutS b) w w' := by
 obtain ⟨c0, Y, c2, c3⟩ := D.a4; have z := A.at 0 rfl
 obtain ⟨Z, W, f2, f3⟩ := D.f4; have f4 := A.frozen 0
 refine callsD_of_wpS func28 rfl fun O X H => ?_
 show Code.wpS prog _ _ { tmps := #[.pointer (some ⟨b, 0, none⟩), .pointer (some ⟨b + 1, 0, none⟩), undef, undef, undef, undef, undef, undef, undef], defers := [] } _ _
 apply wpS_seq
 apply wpS_region
 simp [wpOpsS, go_sem, recoverD, H, Exit.thenS]
 refine wpS_of_wp ?_
 have U := au1
 go_wp2
 go_region
 go_wp2
 have G := ((((D.set 0 (.int .u64 0)).set 1 (.slice none 0 0)).set 2 (.slice none 0 0)).set 3 (.slice none 0 0)).other ⟨b + 1, 0, none⟩ (.int .i64 e) (by simp only; omega)
 have E := ((((A.other ⟨b, 0, none⟩ (.int .u64 0) (by simp only; omega)).other ⟨b, 1, none⟩ (.slice none 0 0) (by simp only; omega)).other ⟨b, 2, none⟩ (.slice none 0 0) (by simp only; omega)).other ⟨b, 3, none⟩ (.slice none 0 0) (by simp only; omega)).set 0 (.int .i64 e)
 refine ⟨rfl, _, rfl, _, results_none rfl _ _ _, rfl, rfl, G, E, ?_⟩
 refine Upd.drew ?_
 exact ((((Upd.set (S := OutS b) (p := ⟨b, 0, none⟩) (Or.inl rfl) _).trans (Upd.set (S := OutS b) (p := ⟨b, 1, none⟩) (Or.inl rfl) _) (fun _ h _ => h)).trans (Upd.set (S := OutS b) (p := ⟨b, 2, none⟩) (Or.inl rfl) _) (fun _ h _ => h)).trans (Upd.set (S := OutS b) (p := ⟨b, 3, none⟩) (Or.inl rfl) _) (fun _ h _ => h)).trans (Upd.set (S := OutS b) (p := ⟨b + 1, 0, none⟩) (Or.inr rfl) _) (fun _ h _ => h)
def bdq (i : Int) : Prop := 0 ≤ i ∧ i ≤ 255
theorem au3 : MapT prog 83 5 82 (fun i : Int => .int .u8 i) (fun i => .int .u8 i) bdq (fun v : Value => v) some .nilFunc where
 ht := underlying83
 K := Maps.int_keyed underlying5
 hkey := fun x A => Maps.keyOf_int_mk underlying5 (WalkArith.wf_u8 A)
 inj := fun x y _ _ h => by injection h
 de := fun y => rfl
 ed := fun v y h => by injection h
 hz := fun w => by kernel_rfl
abbrev FnM (w : World) (b : Nat) (h : Int → Option Value) (n : Nat) : Prop := MapG prog 5 (fun i : Int => .int .u8 i) bdq some w b h n
theorem au4 {n : Nat} (h : n ≤ 100) : n < maxLen := by unfold maxLen; omega
theorem ahb {w : World} {b n : Nat} {h : Int → Option Value} (M : FnM w b h n) (G : n ≤ 100) (u : Int) (F : bdq u) (y : Value) : ∃ w', (Instr.mapUpdate 83 (.map (some b)) (.int .u8 u) y).run prog w = .ok () w' ∧ (∃ n', n' ≤ n + 1 ∧ FnM w' b (fun i => if i = u then some y else h i) n') ∧ Upd (fun i => i = b) w w' := by
 obtain ⟨w', A, D, E⟩ := M.put_run au3 (au4 G) F y
 refine ⟨w', A, ⟨_, ?_, D⟩, Upd.grown (S := fun i => i = b) E (fun k e => (Option.some.inj e).symm)⟩
 split <;> omega
theorem MkS.ow {B m : Nat} {w : World} {t : StT} (h : MkS B m (.slice none 0 0) w t) : StOw B w t :=
 ⟨h.q, h.b, h.h, h.mm, h.p, h.tk, h.md, h.pd, fun q F x D => (h.ra q F x D).weaken (fun i _ hi => ⟨hi.1, fun A => hi.2.2 (aab.2 (.inr A))⟩), fun b E x D => (h.rb b E x D).weaken (fun i _ hi => ⟨hi.1, fun A => hi.2.2 (aab.2 (.inr A))⟩), h.wf⟩
theorem StOw.upd {B : Nat} {S : Nat → Prop} {w w' : World} {t : StT} (h : StOw B w t) (D : Upd S w w') (A : ∀ i, S i → i < B) : StOw B w' t :=
 ⟨h.q.upd D (fun i e hi => by have := h.q.ge e; have := A i hi; omega), h.b.upd D (fun i e hi => by have := h.b.ge e; have := A i hi; omega), h.h.upd D (fun i e hi => by have := h.h.ge e; have := A i hi; omega), fun q F => (h.m q F).upd D (fun i e hi => by have := (h.m q F).ge e; have := A i hi; omega), fun b E => (h.p b E).upd D (fun i e hi => by have := (h.p b E).ge e; have := A i hi; omega), fun b E => (h.tk b E).upd D (fun i e hi => by have := (h.tk b E).ge e; have := A i hi; omega), h.md, h.pd,
  fun q F x G => (h.ra q F x G).upd D (fun i hi e => by have := A i e; have := hi.1; omega), fun b E x G => (h.rb b E x G).upd D (fun i hi e => by have := A i e; have := hi.1; omega), h.wf⟩
theorem StOw.base {B G : Nat} {w : World} {t : StT} (h : StOw B w t) (A : G ≤ B) : StOw G w t :=
 ⟨h.q.rebase (fun k e => jk A (h.q.ge e)), h.b.rebase (fun k e => jk A (h.b.ge e)), h.h.rebase (fun k e => jk A (h.h.ge e)), fun q E => (h.m q E).rebase (fun k e => jk A ((h.m q E).ge e)), fun b D => (h.p b D).rebase (fun k e => jk A ((h.p b D).ge e)), fun b D => (h.tk b D).rebase (fun k e => jk A ((h.tk b D).ge e)), h.md, h.pd,
  fun q E x F => (h.ra q E x F).weaken (fun i _ hi => ⟨jk A hi.1, hi.2⟩), fun b D x F => (h.rb b D x F).weaken (fun i _ hi => ⟨jk A hi.1, hi.2⟩), h.wf⟩
def StT.zero : StT := ⟨0, .slice none 0 0, .slice none 0 0, .slice none 0 0, [], [], []⟩
theorem StOw.zero (B : Nat) (w : World) : StOw B w StT.zero :=
 ⟨Own.nil, Own.nil, Own.nil, fun q A => (by cases A), fun q A => (by cases A), fun q A => (by cases A), List.Pairwise.nil, List.Pairwise.nil, fun q A => (by cases A), fun q A => (by cases A), ⟨⟨by show (0 : Int) ≤ 0; omega, by show (0 : Int) < _; omega⟩, fun q A => (by cases A), fun q A => (by cases A), fun q A => (by cases A), fun q A => (by cases A), fun q A => (by cases A), fun q A => (by cases A)⟩⟩
structure MkSt (B : Nat) (T0 : StT) (l : List Rf) (S0 : List Qu) (i k j : Nat) (w : World) (Q : List QuT) : Prop where
 o : StOw B w { T0 with qs := Q }
 m : Mk3 S0 l i k j Q
 v : Q.map QuT.mv = T0.qs.map QuT.mv
section
variable {B : Nat} {T0 : StT} {l : List Rf} {S0 : List Qu} {i k j : Nat} {w w' : World} {Q : List QuT}
theorem MkSt.to {D E A : Nat} (h : MkSt B T0 l S0 i k j w Q) (F : Mk3 S0 l D E A Q) : MkSt B T0 l S0 D E A w Q := ⟨h.o, F, h.v⟩
theorem MkSt.len (h : MkSt B T0 l S0 i k j w Q) : Q.length = S0.length := h.m.places.1
theorem MkSt.row (h : MkSt B T0 l S0 i k j w Q) {H : Option Addr} {qn qc : Nat} (O : T0.qv = .slice H qn qc) {a : Nat} (N : a < S0.length) :
 ∃ E F D, H = some ⟨E, 0, none⟩ ∧ (T0.qs.map QuT.mv)[a]? = some (.slice F S0[a].zw.length D) := by
 have A : a < Q.length := by rw [h.len]; exact N
 obtain ⟨X, W⟩ := h.m.places
 obtain ⟨-, U, -⟩ := W a A
 have G : Own B 51 3 aar w T0.qv Q := h.o.q
 rw [O] at G
 obtain ⟨E, J, -⟩ := abr G A
 have I : Own B 60 11 abl w Q[a].mv Q[a].zw := h.o.m _ (qy A)
 obtain ⟨F, D, K, -⟩ : ∃ M c, Q[a].mv = .slice M Q[a].zw.length c ∧ Q[a].zw.length ≤ maxLen := (I.slc aac).len
 refine ⟨E, F, D, J, ?_⟩
 rw [← h.v, List.getElem?_map, List.getElem?_eq_getElem A, ← U, ← K]; rfl
theorem MkSt.mv (h : MkSt B T0 l S0 i k j w Q) {a : Nat} (D : a < Q.length) {v : Value} (A : (T0.qs.map QuT.mv)[a]? = some v) : Q[a].mv = v := by
 rw [← h.v, List.getElem?_map, List.getElem?_eq_getElem D] at A; injection A
theorem MkSt.cells (h : MkSt B T0 l S0 i k j w Q) {D qn qc : Nat} (K : T0.qv = .slice (some ⟨D, 0, none⟩) qn qc) {a : Nat} (J : a < S0.length) {H : Option Addr} {G F : Nat} (I : (T0.qs.map QuT.mv)[a]? = some (.slice H G F)) :
 w.cell? ⟨D, a * 3, none⟩ = some (.string S0[a].name) ∧ w.cell? ⟨D, a * 3 + 2, none⟩ = some (.slice H G F) := by
 have A : a < Q.length := by rw [h.len]; exact J
 obtain ⟨N, M⟩ := h.m.places
 have E : Own B 51 3 aar w T0.qv Q := h.o.q
 rw [K] at E
 refine ⟨?_, E.cell aaf a A 2 _ (by show some (one Q[a].mv) = _; rw [h.mv A I]; rfl)⟩
 rw [← (M a A).1]
 exact E.cell aaf a A 0 _ rfl
theorem MkSt.hit (h : MkSt B T0 l S0 i k j w Q) (hi : i < S0.length) (E : k < S0[i].zw.length) (M : j < l.length) (N : acz l[j] ⟨S0[i].name, S0[i].zw[k].id⟩ = true) {F J I : Nat} (G : (T0.qs.map QuT.mv)[i]? = some (.slice (some ⟨F, 0, none⟩) J I)) :
 MkSt B T0 l S0 i k (j + 1) (w.setCell ⟨F, k * 11 + 1 + 2, none⟩ (.bool true)) (aeu Q i k) := by
 have A : i < Q.length := by rw [h.len]; exact hi
 obtain ⟨U, O⟩ := h.m.places
 obtain ⟨-, K, -⟩ := O i A
 have D : k < Q[i].zw.length := by rw [K]; exact E
 have H := h.o.mark (k := i) A (h.mv A G) D
 refine ⟨?_, h.m.hit hi E M N, by rw [axh]; exact h.v⟩
 rw [ag7 A D]
 exact H
theorem MkSt.pure (h : MkSt B T0 l S0 i k j w Q) (A : Below w.heap.size w w') : MkSt B T0 l S0 i k j w' Q :=
 ⟨h.o.upd (Upd.of_below (S := fun _ => False) A) (fun i e => e.elim), h.m, h.v⟩
end
theorem MkSt.start {B : Nat} {w : World} {t : StT} {l : List Rf} (h : StOw B w t) : MkSt B t l (t.qs.map QuT.q) 0 0 0 w t.qs := ⟨h, Mk3.zero rfl, rfl⟩
theorem StOw.rd {B : Nat} {w : World} {t : StT} (h : StOw B w t) : StRd (fun i => B ≤ i) w t :=
 ⟨h.q.slc aaf, fun k e _ => h.q.ge e, fun q D => ⟨(h.m q D).slc aac, fun k e _ => (h.m q D).ge e, fun x E => (h.ra q D x E).weaken (fun i _ hi => hi.1), h.wf.mi q D⟩,
  h.b.slc aag, fun k e _ => h.b.ge e, fun b A => ⟨(h.p b A).slc aae, fun k e _ => (h.p b A).ge e, fun x E => (h.rb b A x E).weaken (fun i _ hi => hi.1), (h.tk b A).slc aa9, fun k e _ => (h.tk b A).ge e,
   ⟨by show (0 : Int) ≤ 4; omega, by show (4 : Int) < 256; omega, by show (0 : Int) ≤ 0; omega, by show (0 : Int) < _; omega, (h.wf.bx b A).1, (h.wf.bx b A).2, fun p F => by
    obtain ⟨y, hy, rfl⟩ := jv.1 F
    exact ⟨(h.wf.pi b A y hy).1, (h.wf.pi b A y hy).2, (h.rb b A y hy).wf⟩, h.wf.ti b A⟩⟩,
  h.h.slc adi, fun k e _ => h.h.ge e, h.wf.n, h.wf.ql, h.wf.hx⟩
theorem az9 {A : Type} {R : A → A → Prop} {L : List A} (h : L.Pairwise R) (i : Nat) {x : A} (E : ∀ a ∈ L, R a x ∧ R x a) : (abj L i x).Pairwise R := by
 unfold abj
 have F : ∀ a, a ∈ L.take i ∨ a ∈ L.drop i → a ∈ L := fun a H => H.elim List.mem_of_mem_take List.mem_of_mem_drop
 rw [← List.take_append_drop i L] at h
 obtain ⟨K, I, J⟩ := List.pairwise_append.1 h
 refine List.pairwise_append.2 ⟨K, List.pairwise_cons.2 ⟨fun b M => (E b (F b (.inr M))).2, I⟩, fun p G q D => ?_⟩
 rcases List.mem_cons.1 D with rfl | D
 ·exact (E p (F p (.inl G))).1
 ·exact J p G q D
theorem MkS.insB {B m : Nat} {w0 w I : World} {t : StT} (E : MkS B m (.slice none 0 0) w0 t) (O : Below w0.heap.size w0 w) (ab : B ≤ w0.heap.size) (i : Nat) {b : BrT} {r : Value} (hO : Own B 62 5 aa7 I r (abj t.zk i b)) (K : Upd (fun k => t.bv.ownBlock = some k) w I) (hr : ∀ k, r.ownBlock = some k → t.bv.ownBlock = some k ∨ w.heap.size ≤ k)
 (J : OwL 64 12 aat (fun x => x.pr.app) w0.heap.size w b.pv b.zu) (ac : Own w0.heap.size 68 2 abc w b.tv b.zy)
 (aj : 0 ≤ b.x.1 ∧ b.x.1 < 4294967296) (ah : ∀ p ∈ b.zu, 0 ≤ p.id ∧ p.id < 18446744073709551616) (af : ∀ r ∈ b.zy, 0 ≤ r.id ∧ r.id < 18446744073709551616) :
 MkS B m (.slice none 0 0) (I.setCell ⟨m, 2, none⟩ r) { t with bv := r, zk := abj t.zk i b } := by
 have h := E.pure O
 have hm : t.bv.ownBlock ≠ some m := abm h.b h.a (by decide)
 have ad : BlkT I m [.int .u64 t.next, t.qv, t.bv, t.hv] 81 := h.a.upd K hm
 have W : Upd (fun k => t.bv.ownBlock = some k ∨ k = m) w (I.setCell ⟨m, 2, none⟩ r) := (K.mono (fun i e _ => .inl e)).trans (Upd.set (S := fun k => k = m) rfl r) (fun i e _ => .inr e)
 have al : r.ownBlock ≠ some m := abm hO ad (by decide)
 have am : m < w0.heap.size := E.a.blk.lt
 have ai : ∀ i, Mut t.mv i → i < w0.heap.size := fun i F => by
  unfold StT.mv at F; simp only [aab, abd] at F; rcases F with e | e | e | ⟨u, K, e⟩ | ⟨u, K, e⟩
  ·exact E.q.lt e
  ·exact E.b.lt e
  ·exact E.h.lt e
  ·obtain ⟨q, H, rfl⟩ := jv.1 K; exact (E.mm q H).lt e
  ·obtain ⟨q, H, rfl⟩ := jv.1 K; exact (E.p q H).lt e
 have z : ∀ k, t.bv.ownBlock = some k → k < w0.heap.size := fun k e => E.b.lt e
 have aa : ∀ j, Mut (Value.slice none 0 0 :: StT.mv { t with bv := r, zk := abj t.zk i b }) j → Mut t.mv j ∨ r.ownBlock = some j ∨ b.pv.ownBlock = some j := fun j F => by
  unfold StT.mv at F ⊢; simp only [aab, abd] at F ⊢; rcases F with e | e | e | e | e | e
  ·simp [Value.ownBlock] at e
  ·exact .inl (.inl e)
  ·exact .inr (.inl e)
  ·exact .inl (.inr (.inr (.inl e)))
  ·exact .inl (.inr (.inr (.inr (.inl e))))
  ·obtain ⟨v, X, e⟩ := e
   obtain ⟨x, A, rfl⟩ := jv.1 X; rcases ack.1 A with rfl | A
   ·exact .inr (.inr e)
   ·exact .inl (.inr (.inr (.inr (.inr ⟨_, jw A, e⟩))))
 have an := O.size
 have Z : ∀ v : VT, Rd (Far B m (.slice none 0 0) t) w0 v → Rd (Far B m (.slice none 0 0) { t with bv := r, zk := abj t.zk i b }) (I.setCell ⟨m, 2, none⟩ r) v := fun v X =>
  ((X.lt.pure O).upd W (fun j D e => by
   rcases e with e | e
   ·exact D.1.2.2 (aab.2 (.inr (aab.2 (.inr (aab.2 (.inl e))))))
   ·exact D.1.2.1 e)).weaken (fun j _ D => ⟨D.1.1, D.1.2.1, fun F => by
    rcases aa j F with e | e | e
    ·exact D.1.2.2 (aab.2 (.inr e))
    ·rcases hr j e with e | e
     ·exact D.1.2.2 (aab.2 (.inr (aab.2 (.inr (aab.2 (.inl e))))))
     ·have := D.2; omega
    ·have := J.o.ge e; have := D.2; omega⟩)
 have G : ∀ {ae : Type} {e n : Nat} {enc : ae → List Value} {v : Value} {L : List ae}, e ≠ 62 → e ≠ 81 → Own B e n enc w v L → Own B e n enc (I.setCell ⟨m, 2, none⟩ r) v L := fun h1 h2 N =>
  N.upd W (fun k M e => by
   rcases e with e | e
   ·exact aaz N h.b h1 M e
   ·exact abm N h.a h2 (by rw [M, e]))
 have ak : Own B 64 12 aat w b.pv b.zu := J.o.rebase (fun k e => jk ab (J.o.ge e))
 have ag : Own B 68 2 abc w b.tv b.zy := ac.rebase (fun k e => jk ab (ac.ge e))
 refine ⟨ad.set 2 r, h.mB, G (by decide) (by decide) h.q, hO.other _ _ (fun k M e => al (by rw [M]; exact congrArg some e)), G (by decide) (by decide) h.h, fun q H => G (by decide) (by decide) (h.mm q H), fun x A => ?_, fun x A => ?_, h.md, az9 h.pd i (fun a ha => ⟨fun j Y U => ?_, fun j Y U => ?_⟩), fun x _ j _ e => by simp [Value.ownBlock] at e, fun q H x A => Z _ (E.ra q H x A), fun x A y hy => ?_, ⟨h.wf.n, h.wf.ql, h.wf.mi, fun x A => ?_, fun x A => ?_, fun x A => ?_, h.wf.hx⟩⟩
 ·rcases ack.1 A with rfl | A
  ·exact G (by decide) (by decide) ak
  ·exact G (by decide) (by decide) (h.p x A)
 ·rcases ack.1 A with rfl | A
  ·exact G (by decide) (by decide) ag
  ·exact G (by decide) (by decide) (h.tk x A)
 ·have := (E.p a ha).lt Y; have := J.o.ge U; omega
 ·have := (E.p a ha).lt U; have := J.o.ge Y; omega
 ·rcases ack.1 A with rfl | A
  ·refine ((J.r y hy).lt.upd W (fun j D e => ?_)).weaken (fun j _ D => ⟨?_, ?_, fun F => ?_⟩)
   ·rcases e with e | e
    ·have := z j e; have := D.1.1; omega
    ·have := D.1.1; omega
   ·have := D.1.1; omega
   ·have := D.1.1; omega
   ·rcases aa j F with e | e | e
    ·have := ai j e; have := D.1.1; omega
    ·rcases hr j e with e | e
     ·have := z j e; have := D.1.1; omega
     ·have := D.2; omega
    ·exact D.1.2 e
  ·exact Z _ (E.rb x A y hy)
 ·rcases ack.1 A with rfl | A
  ·exact aj
  ·exact h.wf.bx x A
 ·rcases ack.1 A with rfl | A
  ·exact ah
  ·exact h.wf.pi x A
 ·rcases ack.1 A with rfl | A
  ·exact af
  ·exact h.wf.ti x A
def afv (base : Nat) (w : World) (v : Value) (L : List BrT) (e : Ending) (w' : World) : Prop := aj6 62 5 base aa7 w v L e w'
theorem akz {base : Nat} (w : World) (v : Value) (L : List BrT) (x : BrT) (A : Nat) (h : Own base 62 5 aa7 w v L) (F : base ≤ w.heap.size) (Z : L.length ≤ 1000000) (M : Blk w A (aa7 x)) :
 Calls prog 99 #[v, .int .i64 L.length, .slice (some ⟨A, 0, none⟩) 1 1] w (afv base w v (L ++ [x])) := by
 have G := qq h
 obtain ⟨a, D, rfl, U⟩ := (h.slc aag).len
 unfold maxLen at U
 clear h
 have E : ∀ j u, (aa7 x)[j]? = some u → w.cell? ⟨A, j, none⟩ = some u := fun j u N => (M.cell j).trans N
 have H := qq E
 clear E
 obtain ⟨aa, Y⟩ := qx (if D = L.length then a else Option.map (fun x => x.add (L.length * 5)) a)
 go_enter func99, ntmps99
 go_wp2_with (at_builtin; refine af6 rfl (.tmp 23) (.tmp 24) 24 62 rfl afn aag aeb (.slice a L.length D) L rfl G.out A 1 x rfl H.out (by omega) (by unfold maxLen; omega) F ?_; intro X W z O J I)
 go_ret
 exact aur O (Upd.grown J (fun k K => K)) I
theorem akf {base : Nat} (w : World) (g A i : Nat) (L : List BrT) (x : BrT) (D : Nat) (h : Own base 62 5 aa7 w (.slice (some ⟨g, 0, none⟩) L.length A) L) (hL : L.length ≤ 1000000) (hi : i < L.length) (U : L.length + 1 ≤ A) (E : Blk w D (aa7 x)) (N : D ≠ g) :
 Calls prog 99 #[.slice (some ⟨g, 0, none⟩) L.length A, .int .i64 i, .slice (some ⟨D, 0, none⟩) 1 1] w (afv base w (.slice (some ⟨g, 0, none⟩) L.length A) (L.take i ++ x :: L.drop i)) := by
 have mixed : prog.follows .mixedOrders = true := by kernel_rfl
 obtain ⟨W1, S1, ex, J, I, H, M, G, K, ac⟩ := aqo afn aag aeb w g A i L x D h hi U E N
 have Y : ∀ lb F, (callFunc 146 #[.slice (some ⟨D, 0, none⟩) 1 1, .slice (some ⟨g, (i + 1) * 5, none⟩) lb F]).run prog w = .ok (.value (.bool false)) w := fun lb F => by
  obtain ⟨TA, aa⟩ := E.shape; have ab := anv J
  rw [run_callFunc_extern func146 (by kernel_rfl) (by kernel_rfl) (by kernel_rfl) (e := Extern.SlicesOverlaps.overlaps #[24, 24] #[4]) (by kernel_rfl),
   Lib.run_overlaps_apart w 24 4 62 underlying24 5 (fun w => aie afn) ⟨D, 0, none⟩ ⟨g, (i + 1) * 5, none⟩ 1 1 lb F N _ _ _ _ aa ab (by omega) (E.frozen 0) (E.frozen _)]
  rfl
 have W := qq K; have O := qq G; have X := qq M
 clear G K h J M
 have aj : ¬ (A = i) := by omega
 have ad : ¬ (A = i + 1) := by omega
 have ai : ¬ ((i : Int) = (L.length : Int)) := by omega
 have af : (L.length : Int) + 1 ≤ (A : Int) := by omega
 have am : (0 : Int) ≤ (i : Int) + 1 := by omega
 have al : (i : Int) ≤ (L.length : Int) + 1 := by omega
 have ah : (i : Int) + 1 ≤ (L.length : Int) + 1 := by omega
 have ak : IntKind.i64.wrap ((i : Int) + 1) = (i : Int) + 1 := IntWalk.i64_in _ (by omega)
 have ag : ((i : Int) + 1).toNat = i + 1 := by omega
 have ae : ((L.length : Int) + 1).toNat = L.length + 1 := by omega
 go_enter func99, ntmps99
 go_wp2_with (simp only [Y])
 have Z := qq I
 have z := qq H
 clear I H
 go_region_law (refine adc rfl (.tmp 73) (.tmp 76) 24 24 rfl _ _ (by simp [Act.eval, Act.put]) (by simp [Act.eval, Act.put]) (Z.out _ (L.length - i) (A - (i + 1)) (L.length + 1 - i) (A - i) (by omega) (by omega)) ?_)
 go_wp2_with (refine acp _ rfl (.tmp 80) (.tmp 81) 24 24 rfl _ _ rfl rfl (z.out _ (fun _ => rfl) (fun _ => rfl) _ (L.length + 1 - i) (A - i) (by omega)) ?_)
 go_ret
 exact ah5 (Nat.le_of_lt hi) O.out W.out X.out
theorem akg {base : Nat} (w : World) (g A i : Nat) (L : List BrT) (x : BrT) (E : Nat) (h : Own base 62 5 aa7 w (.slice (some ⟨g, 0, none⟩) L.length A) L) (N : base ≤ w.heap.size) (hL : L.length ≤ 1000000) (hi : i < L.length) (O : A < L.length + 1) (hx : Blk w E (aa7 x)) :
 Calls prog 99 #[.slice (some ⟨g, 0, none⟩) L.length A, .int .i64 i, .slice (some ⟨E, 0, none⟩) 1 1] w (afv base w (.slice (some ⟨g, 0, none⟩) L.length A) (L.take i ++ x :: L.drop i)) := by
 have mixed : prog.follows .mixedOrders = true := by kernel_rfl
 obtain ⟨D, W1, W2, S2, J, H, G, K, F, I, aa, W, ag⟩ := aqp afn underlying3 (by omega) aag aeb w g A i L x E h N hL hi O hx
 have z := qq J
 have Y := qq H
 have Z := qq G
 have U := qq I
 have M := qq F; have X := qq K
 unfold maxLen at W
 clear J H G I F h K
 have ai : ¬ (A = i) := by omega
 have ab : ¬ (D = i + 1) := by omega
 have ak : ¬ (D = i) := by omega
 have af : ¬ ((i : Int) = (L.length : Int)) := by omega
 have ad : (A : Int) < (L.length : Int) + 1 := by omega
 have an : (0 : Int) ≤ (i : Int) + 1 := by omega
 have ah : (i : Int) + 1 ≤ (L.length : Int) + 1 := by omega
 have am : (i : Int) ≤ (L.length : Int) + 1 := by omega
 have aj : (i : Int) ≤ (A : Int) := by omega
 have ac : i ≤ L.length := by omega
 have al : IntKind.i64.wrap ((i : Int) + 1) = (i : Int) + 1 := IntWalk.i64_in _ (by omega)
 have ae : ((i : Int) + 1).toNat = i + 1 := by omega
 go_enter func99, ntmps99
 go_wp2_with (first | (at_builtin; refine Lib.wpList_append_run _ rfl (.tmp 34) (.tmp 39) 24 3 rfl _ _ rfl rfl _ _ (z.out _) ?_) | (refine acp _ rfl (.tmp 43) (.tmp 44) 24 24 rfl _ _ rfl rfl (Y.out _ (L.length + 1 - i) (D - i) (by omega)) ?_))
 go_region_law (refine adc rfl (.tmp 50) (.tmp 53) 24 24 rfl _ _ (by simp [Act.eval, Act.put]) (by simp [Act.eval, Act.put]) (Z.out _ (L.length - i) (D - (i + 1)) (L.length - i) (A - i) rfl rfl) ?_)
 go_wp2
 go_ret
 exact ah6 (Nat.le_of_lt hi) M.out U.out X.out
theorem ar0 {base : Nat} (w : World) (v : Value) (i : Nat) (L : List BrT) (x : BrT) (A : Nat) (h : Own base 62 5 aa7 w v L) (I : base ≤ w.heap.size) (H : L.length ≤ 1000000) (hi : i ≤ L.length) (G : Blk w A (aa7 x)) (J : v.ownBlock ≠ some A) :
 Calls prog 99 #[v, .int .i64 i, .slice (some ⟨A, 0, none⟩) 1 1] w (afv base w v (L.take i ++ x :: L.drop i)) := by
 rcases Nat.lt_or_ge i L.length with D | D
 ·obtain ⟨g, E, rfl, _, _⟩ := h.shape (fun e => by rw [e] at D; simp at D)
  rcases Nat.lt_or_ge E (L.length + 1) with F | F
  ·exact akg w g E i L x A h I H D F G
  ·exact akf w g E i L x A h H D F G (fun e => J (by rw [e]; rfl))
 ·obtain rfl : i = L.length := by omega
  rw [js, List.drop_length]; exact akz w v L x A h I H G
theorem akh {P : Prop} (h : P := by
 go_wp2_with (go_at_call 89; (with_reducible refine (acq _ _).mono ?_); rintro e w4 ⟨rfl, rfl⟩)
 rw [hRh.out, qw (by simp)]
 exact ⟨rfl, adt (by decide) hBw3⟩) : P := h
theorem au5 (w : World) (B m : Nat) (nx : Int) (W : Option Addr) (qc : Nat) (M : Option Addr) (K : Nat) (X : Option Addr) (Y : Nat) (qs : List QuT) (zk : List BrT) (hs : List He) (ek : Int) (en : ByteArray) (ei : Int) (F : Int) (G H : ByteArray) (pa : Option Addr) (pc : Nat) (z : Option Addr) (tc : Nat) (E : List PtT) (J : List Rf) (hM : MkS B m (.slice none 0 0) w (StT.mk nx (.slice W qs.length qc) (.slice M zk.length K) (.slice X hs.length Y) qs zk hs)) (cs : B ≤ w.heap.size) (hE : EnRd (fun i => i < B) w (EnT.mk ek en ei (F, G, H) (.slice pa E.length pc) (.slice z J.length tc) E J)) (bj : qsB nx (qs.map QuT.q) = true) (ct : RisK aav BrT.x zk) (cr : RisK aav He.x hs) (an : StSm (StT.mk nx (.slice W qs.length qc) (.slice M zk.length K) (.slice X hs.length Y) qs zk hs)) (O : PutsOk E) (hl : J.length ≤ 1000000) (ck : ∀ u, Upd (fun i => B ≤ i) w u → Tb u) :
 Calls prog 33 #[.pointer (some ⟨m, 0, none⟩), .agg #[.int .u8 ek, .string en, .int .u64 ei, .int .u32 F, .string G, .string H, .slice pa E.length pc, .slice z J.length tc]] w (ag9 B m w ((StT.mk nx (.slice W qs.length qc) (.slice M zk.length K) (.slice X hs.length Y) qs zk hs).s.prep (EnT.mk ek en ei (F, G, H) (.slice pa E.length pc) (.slice z J.length tc) E J).e)) := by
 have ah := (qz w.heap.size w).alloc (qj _) (.cells #[.int .u8 ek, .string en, .int .u64 ei, .int .u32 F, .string G, .string H, .slice pa E.length pc, .slice z J.length tc] 34)
 have E0 := Blk.new w [.int .u8 ek, .string en, .int .u64 ei, .int .u32 F, .string G, .string H, .slice pa E.length pc, .slice z J.length tc] 34
 have M0 := hM.pure ah
 have A0 : Blk _ m [.int .u64 nx, .slice W qs.length qc, .slice M zk.length K, .slice X hs.length Y] := M0.a.blk
 obtain ⟨b1, br⟩ := qx (acv aav BrT.x zk (F, G, H))
 obtain ⟨b2, bx⟩ := qx (acv aav He.x hs (F, G, H))
 obtain ⟨i1, bb⟩ := qx (lbK aav BrT.x zk (F, G, H))
 obtain ⟨i2, co⟩ := qx (lbK aav He.x hs (F, G, H))
 obtain ⟨pq, bw⟩ := qx ((E.map PtT.p).all (fun p => ad0 (qs.map QuT.q) p.q))
 obtain ⟨te, b7⟩ := qx (abw (StT.mk nx (.slice W qs.length qc) (.slice M zk.length K) (.slice X hs.length Y) qs zk hs).s [] J)
 have dj : i1 ≤ zk.length := by rw [← bb]; exact aza _ _ _ _
 obtain ⟨R, hR⟩ := qx ((StT.mk nx (.slice W qs.length qc) (.slice M zk.length K) (.slice X hs.length Y) qs zk hs).s.prep (EnT.mk ek en ei (F, G, H) (.slice pa E.length pc) (.slice z J.length tc) E J).e)
 have hRh := qq (show R = if b1 = true ∨ b2 = true then no 8 else if pq = false then no 7 else if te ≠ 0 then no te else ({ (StT.mk nx (.slice W qs.length qc) (.slice M zk.length K) (.slice X hs.length Y) qs zk hs).s with zk := abj (zk.map BrT.b) i1 ⟨(F, G, H), E.map PtT.p, J⟩ }, 0) by
  rw [← hR, ← br, ← bx, ← bw, ← b7, bbt, bc9, ← bb]; unfold St.prep
  rw [show lbK aav BrT.x zk (F, G, H) = lbK aav Br.x (zk.map BrT.b) (F, G, H) from (atz aav BrT.b Br.x zk (F, G, H)).symm]; rfl)
 rw [hR]
 have bp : Slc aat 12 w (.slice pa E.length pc) E := hE.p
 have bq : Slc abc 2 w (.slice z J.length tc) J := hE.s
 have b4 : ∀ x ∈ E, Rd (fun i => i < B) w x.pr.app := hE.r
 have cn : 0 ≤ F ∧ F < 4294967296 := ⟨hE.wf.x0, hE.wf.x1⟩
 have cq : ∀ r ∈ J, 0 ≤ r.id ∧ r.id < 18446744073709551616 := hE.wf.t
 have av := qq (fun (v : World) (h : Below w.heap.size w v) => alu v B m (.slice none 0 0) nx W qc M K X Y qs zk hs z tc J (StT.mk nx (.slice W qs.length qc) (.slice M zk.length K) (.slice X hs.length Y) qs zk hs).s (hM.pure h) rfl bj an (bq.pure h) hl)
 rw [b7] at av
 have cb := qq (fun (v : World) (h : Below w.heap.size w v) => atB v nx W qs.length qc M zk.length K X hs.length Y zk F G H (hM.pure h).rd.b _ (hM.pure h).rd.e ct an.b)
 have ca := qq (fun (v : World) (h : Below w.heap.size w v) => atH v nx W qs.length qc M zk.length K X hs.length Y hs F G H (hM.pure h).rd.h cr an.h)
 rw [bb, br] at cb
 rw [co, bx] at ca
 have dq := qq (fun (v : World) (h : Below w.heap.size w v) => ajz v (.slice pa E.length pc) E (fun i => i < B) (bp.pure h) (fun x hx => (b4 x hx).pure h) (fun i hi => jg hi (jk cs h.size)) O.s (ck v (Upd.of_below h)) O.l)
 have di := qq (fun (v : World) (h : Below w.heap.size w v) => anp v (.slice z J.length tc) J (bq.pure h) hl (fun x _ => ae8 x))
 have d6 : (E.length : Int) ≤ 1000000 := by have := O.l; omega
 have ag := qq hM; have cf := qq bw; have db := qq bp; have dg := qq b4; have dd := qq bj; have dz := qq O
 have df : Hid (qs.length ≤ 1000000) := qq an.q
 have da : Hid (zk.length ≤ 1000000) := qq an.b
 have cz := qq cn; have dh := qq cq
 clear hM hE bj ct cr an O ck bw b7 bp bq b4 M0 br bx bb co hR cn cq
 go_enter func33, ntmps33
 go_upto_region 1 with fail
 obtain ⟨u, hu⟩ := zj (w.alloc (.cells #[.int .u8 ek, .string en, .int .u64 ei, .int .u32 F, .string G, .string H, .slice pa E.length pc, .slice z J.length tc] 34))
 rw [← hu] at ah E0 A0 ⊢
 have d5 : w.heap.size < u.heap.size := by rw [hu]; simp
 clear hu
 have D := aan (qz u.heap.size u)
 refine aal (fun v => Below u.heap.size u v) D (fun A => ?_)
 refine tkH 0 A ?_
 refine tkH 1 A ?_
 refine tkH 2 A ?_
 refine tkF 3 A ?_ (fun v N => (A0.pure N).a4)
 refine tkH 4 A ?_
 refine tkF 5 A ?_ (fun v N => have q := E0.pure N; And.intro (q.at 3 rfl) (And.intro (q.at 4 rfl) (q.at 5 rfl)))
 refine aai 6 rfl (fun U I => ?_)
 go_simp
 (go_at_call 52; (with_reducible refine (cb.out _ (ah.trans (D.mono ah.size))).mono ?_); rintro e w2 ⟨rfl, al⟩)
 have D : Below u.heap.size u w2 := D.trans (al.mono D.size)
 refine I.out _ _ D (fun A => ?_)
 clear I U
 (try simp only [Act.put, lsT, lsZ, lsS])
 refine tkH 7 A ?_
 refine tkH 8 A ?_
 refine tkH 9 A ?_
 refine tkH 10 A ?_
 refine tkH 11 A ?_
 refine ah9 ?_
 have ao := ah.trans (D.mono ah.size)
 have A2 := A0.pure D; have E2 := E0.pure D
 clear D A ah A0 E0 cb
 go_upto_region 2 with fail
 have D := aan (qz w2.heap.size w2)
 refine aal (fun v => Below w2.heap.size w2 v) D (fun A => ?_)
 refine tkH 0 A ?_
 refine tkH 1 A ?_
 refine tkH 2 A ?_
 refine tkF 3 A ?_ (fun v N => (A2.pure N).a4)
 refine tkH 4 A ?_
 refine tkF 5 A ?_ (fun v N => have q := E2.pure N; And.intro (q.at 3 rfl) (And.intro (q.at 4 rfl) (q.at 5 rfl)))
 refine aai 6 rfl (fun U I => ?_)
 go_simp
 (go_at_call 98; (with_reducible refine (ca.out _ (ao.trans (D.mono ao.size))).mono ?_); rintro e w3 ⟨rfl, al⟩)
 have D : Below w2.heap.size w2 w3 := D.trans (al.mono D.size)
 refine I.out _ _ D (fun A => ?_)
 clear I U
 (try simp only [Act.put, lsT, lsZ, lsS])
 refine tkH 7 A ?_
 refine tkH 8 A ?_
 refine tkH 9 A ?_
 refine tkH 10 A ?_
 refine tkH 11 A ?_
 refine ah9 ?_
 have hBw3 := ao.trans (D.mono ao.size)
 have A3 := A2.pure D; have E3 := E2.pure D
 clear D A al A2 E2 ca ao
 cases b1
 rotate_left 1
 ·exact akh
 cases b2
 rotate_left 1
 ·exact akh
 have e6 := E3.at 6 rfl
 go_wp2_with (go_at_call 89; (with_reducible refine (ab9 _ _).mono ?_); rintro e w4 ⟨rfl, rfl⟩)
 clear e6
 go_loopw [9, 10, 11, 42] (fun s9 dy dt bl wr => ∃ k : Nat, k ≤ E.length ∧ bl = .int .i64 k ∧ Hid (∀ p ∈ E.take k, ad0 (qs.map QuT.q) p.q = true) ∧ Below w3.heap.size w3 wr) (fun s9 dy dt bl _ => E.length - (intOf bl).toNat)
 case atStart => exact ⟨0, Nat.zero_le _, rfl, qq (fun p O => by cases O), qz _ _⟩
 case round =>
  obtain ⟨k, hk, rfl, ci, hB⟩ := hrel; have Z := hBw3.trans (hB.mono hBw3.size); by_cases ar : k < E.length
  ·have d1 : (k : Int) < (E.length : Int) := by omega
   have bt := db.out.pure Z; obtain ⟨g, off, rfl⟩ := bt.addrB ar; obtain ⟨q, id, key, b0, red, mid, uk, un, us, b8, b9, bn, bu, bh, ul, bg, hx, c0, c1, c2, c3, c4, c5, c6, c7, c8, c9, dr, dx⟩ := ad5 bt ar ((dg.out _ (qy ar)).pure Z); obtain ⟨b, ab⟩ := qx (acv abf QuT.name qs q); obtain ⟨m1, cu⟩ := qx (lbK abf QuT.name qs q); have bo := fun (v : World) (h : Below w.heap.size w v) => atQ v nx W qs.length qc M zk.length K X hs.length Y qs q (ag.out.pure h).rd.q (fun i => B ≤ i) (ag.out.pure h).rd.m (awq dd.out) df.out
   rw [cu, ab] at bo; have ce := qq bo; have d4 := qq hx; have cw := qq (show ad0 (qs.map QuT.q) E[k].q = b by rw [hx, ← anm]; exact ab); clear bo cu ab hx bt; go_upto_region 7 with fail; have cc := (qz wr.heap.size wr).alloc (qj _) (.cells #[.string q, .int .u64 id, .string key, .bool b0, .bool red, .string mid, .int .u8 uk, .int .u64 un, .string us, .slice b8 bh.length b9, .slice bn ul.length bu, .string bg] 64); have E1 := Blk.new wr [.string q, .int .u64 id, .string key, .bool b0, .bool red, .string mid, .int .u8 uk, .int .u64 un, .string us, .slice b8 bh.length b9, .slice bn ul.length bu, .string bg] 64; have aq := hB.trans (cc.mono hB.size); have am := Z.trans (cc.mono Z.size); generalize wr.heap.size = nb at E1 ⊢; generalize wr.alloc (.cells #[.string q, .int .u64 id, .string key, .bool b0, .bool red, .string mid, .int .u8 uk, .int .u64 un, .string us, .slice b8 bh.length b9, .slice bn ul.length bu, .string bg] 64) = x at E1 aq am ⊢; clear c0 c1 c2 c3 c4 c5 c6 c7 c8 c9 dr dx cc hB Z; have A1 := A3.pure aq; have D := aan (qz x.heap.size x); refine aal (fun v => Below x.heap.size x v) D (fun A => ?_); refine tkH 0 A ?_; refine tkH 1 A ?_; refine tkH 2 A ?_; refine tkF 3 A ?_ (fun v N => (A1.pure N).a4); refine tkH 4 A ?_; refine tkF 5 A ?_ (fun v N => (E1.pure N).at 0 rfl); refine aai 6 rfl (fun U I => ?_); go_simp
   (go_at_call 88; (with_reducible refine (ce.out _ (am.trans (D.mono am.size))).mono ?_); rintro e w4 ⟨rfl, al⟩)
   have D : Below x.heap.size x w4 := D.trans (al.mono D.size); refine I.out _ _ D (fun A => ?_); clear I U; (try simp only [Act.put, lsT, lsZ, lsS]); refine tkH 7 A ?_; refine tkH 8 A ?_; refine tkH 9 A ?_; refine tkH 10 A ?_; refine tkH 11 A ?_; refine ah9 ?_; have dw := aq.trans (D.mono aq.size); have dc := am.trans (D.mono am.size); clear D A al ce aq am E1 A1; cases b
   ·have du : pq = false := by
     rw [← cf.out, List.all_eq_false]; exact ⟨_, jw (qy ar), by rw [show ad0 (qs.map QuT.q) E[k].p.q = false from cw.out]; simp⟩
    subst du; go_wp2_with (go_at_call 89; (with_reducible refine (acq _ _).mono ?_); rintro e w5 ⟨rfl, rfl⟩); rw [hRh.out, qk (by simp), qw (by simp)]; exact ⟨rfl, adt (by decide) dc⟩
   have cy := qq (show ∀ p ∈ E.take (k + 1), ad0 (qs.map QuT.q) p.q = true by
    intro p O; rw [jx ar] at O; rcases List.mem_append.1 O with O | O
    ·exact ci.out p O
    ·rw [jc.1 O]; exact cw.out)
   go_wp2_with (go_at_call 89; (with_reducible refine (ab9 _ _).mono ?_); rintro e w5 ⟨rfl, rfl⟩); go_roundw
   case rel => exact ⟨k + 1, by omega, by go_num, cy, dw⟩
   case measure => simp [intOf]; omega
  ·obtain rfl : k = E.length := by omega
   have de : pq = true := by
    rw [← cf.out, jt]; intro p O; obtain ⟨x, hx, rfl⟩ := jv.1 O; exact ci.out x (by rw [js]; exact hx)
   subst de; have Ew := E3.pure hB; have e5 := Ew.at 7 rfl; obtain ⟨b, ab⟩ := qx (decide (te = 0)); cases b
   ·have bk : ¬ te = 0 := jq ab
    have az := qq (show _ from by have h := av.out _ Z; simp only [qk bk] at h; exact h); have cg := qq bk; clear av ab bk; go_wp2_with (go_at_call 96; (with_reducible refine az.out.mono ?_); rintro e w4 ⟨rfl, au⟩); rw [hRh.out, qk (by simp), qk (by simp), qw cg.out]; exact ⟨rfl, adt cg.out (Z.trans (au.mono Z.size))⟩
   have hz : te = 0 := qt ab; have az := qq (show _ from by have h := av.out _ Z; simp only [qw hz] at h; exact h); have d0 := qq hz; clear av ab hz; go_upto_region 11 with (go_at_call 96; (with_reducible refine az.out.mono ?_); rintro e w4 ⟨rfl, au⟩; have aa := Z.trans (au.mono Z.size); have b6 := Ew.pure au; have cl := (A3.pure hB).pure au); clear Ew e5 az; have cj : Value.ownBlock (.slice M zk.length K) ≠ some m := abm ag.out.b ag.out.a (by decide); have cv : ∀ k, Value.ownBlock (.slice M zk.length K) = some k → k < w.heap.size := fun k e => ag.out.b.lt e
   have bi : ¬ (fun k => Value.ownBlock (.slice M zk.length K) = some k) w.heap.size := fun e => by have := cv _ e; omega
   have cd := aan (qz w4.heap.size w4); have cx := ag.out.pure aa; have D := (Upd.refl (fun k => Value.ownBlock (.slice M zk.length K) = some k) w4).drew; refine acb (fun v => Upd (fun k => Value.ownBlock (.slice M zk.length K) = some k) w4 v) 21 D (fun A => ?_); refine tkU 0 A ?_; refine tkU 1 A ?_; refine tkU 2 A ?_; refine tkU 3 A ?_; refine tkU 4 A ?_; refine tkG 5 A ?_ (fun v N => (cl.upd N cj).at 2 rfl); refine tkU 6 A ?_; refine tkU 7 A ?_; refine tkG 8 A ?_ (fun v N => have q := b6.upd N bi; And.intro (q.at 3 rfl) (And.intro (q.at 4 rfl) (q.at 5 rfl))); refine tkU 9 A ?_; refine tkG 10 A ?_ (fun v N => (b6.upd N bi).at 6 rfl); refine tkU 12 A ?_; refine tkG 13 A ?_ (fun v N => (b6.upd N bi).at 7 rfl); refine aiu 11 rfl (fun U I => ?_); go_simp
   (go_at_call 86; (with_reducible refine (dq.out _ (aa.trans (cd.mono aa.size))).mono ?_); rintro e w5 ⟨dm, L2, rfl, bd, a1, dp⟩)
   have bd := qq bd; have a1 : OwL 64 12 aat (fun x => x.pr.app) w4.heap.size w5 dm L2 := a1; obtain ⟨aj, ai, ak, rfl⟩ := a1.o.shape3; have aw := cd.trans (dp.mono cd.size); have D : Upd (fun k => Value.ownBlock (.slice M zk.length K) = some k) w4 w5 := Upd.of_below aw; refine I.out _ _ D (fun A => ?_); clear I U; (try simp only [Act.put, lsT, lsZ, lsS]); refine aiu 14 rfl (fun U I => ?_); go_simp
   (go_at_call 87; (with_reducible refine (di.out _ (aa.trans (aw.mono aa.size))).mono ?_); rintro e w6 ⟨d3, rfl, b5, b3⟩)
   obtain ⟨ac, ae, ad, rfl⟩ := b5.shape3; have a0 := aw.trans (b3.mono aw.size); have D : Upd (fun k => Value.ownBlock (.slice M zk.length K) = some k) w4 w6 := Upd.of_below a0; refine I.out _ _ D (fun A => ?_); clear I U; (try simp only [Act.put, lsT, lsZ, lsS]); refine tkU 15 A ?_; refine aiu 16 rfl (fun U I => ?_); go_simp; have bf := Blk.new w6 [.int .u32 F, .string G, .string H, .slice aj ai ak, .slice ac ae ad] 62; have ay := (qz w6.heap.size w6).alloc (qj _) (.cells #[.int .u32 F, .string G, .string H, .slice aj ai ak, .slice ac ae ad] 62); have ax := a0.trans (ay.mono a0.size); have bm : (w6.alloc (.cells #[.int .u32 F, .string G, .string H, .slice aj ai ak, .slice ac ae ad] 62)).heap.size = w6.heap.size + 1 := by simp
   obtain ⟨w7, ch⟩ := zj (w6.alloc (.cells #[.int .u32 F, .string G, .string H, .slice aj ai ak, .slice ac ae ad] 62)); rw [← ch] at bf ay ax bm ⊢; have bm := qq bm; clear ch; have D : Upd (fun k => Value.ownBlock (.slice M zk.length K) = some k) w4 w7 := Upd.of_below ax; refine I.out _ _ D (fun A => ?_); clear I U; (try simp only [Act.put, lsT, lsZ, lsS]); refine aiu 17 rfl (fun U I => ?_); have bf : Blk w7 w6.heap.size (aa7 (BrT.mk (F, G, H) (.slice aj ai ak) (.slice ac ae ad) L2 J)) := bf; have d7 : w4.heap.size ≤ w6.heap.size := a0.size; have d2 : w.heap.size ≤ w4.heap.size := aa.size; go_simp
   (go_at_call 99; (with_reducible refine (ar0 (base := B) _ (.slice M zk.length K) i1 zk (BrT.mk (F, G, H) (.slice aj ai ak) (.slice ac ae ad) L2 J) w6.heap.size (cx.b.pure ax) (by have := ax.size; omega) da.out dj bf (fun e => by have := cv _ e; omega)).mono ?_); rintro e w8 ⟨rv, rfl, cp, cm, dk⟩; obtain ⟨ra, rn, rc, rfl⟩ := cp.shape3)
   have D : Upd (fun k => Value.ownBlock (.slice M zk.length K) = some k) w4 w8 := D.trans cm (fun i e _ => e); have A8 := cl.upd D cj; have a2 := A8.at 2 rfl; have af := A8.frozen 2; clear A8; refine I.out _ _ D (fun A => ?_); clear I U; (try simp only [Act.put, lsT, lsZ, lsS]); refine tkU 18 A ?_; refine tkU 19 A ?_; refine tkU 20 A ?_; refine aq2 21 rfl (fun U I => ?_); go_simp; refine I.out _ _ ?_; clear I U; (try simp only [Act.put, lsT, lsZ, lsS]); refine asc ?_; have dn := a1.pure ((b3.mono (qj _)).trans (ay.mono b3.size)); have ds : Own w4.heap.size 68 2 abc w7 (.slice ac ae ad) J := (b5.pure ay).rebase (fun k e => by have := b5.ge e; have := aw.size; omega)
   have M9 := cx.insB ax (jk cs aa.size) i1 (b := (BrT.mk (F, G, H) (.slice aj ai ak) (.slice ac ae ad) L2 J)) (r := .slice ra rn rc) cp cm dk dn ds cz.out (fun p O => by
    obtain ⟨y, hy, e⟩ := jv.1 (show p.p ∈ E.map PtT.p from bd.out ▸ jw O); have h1 := dz.out.i y hy; have e : y.id = p.id := congrArg Pt.id e
    omega) dh.out
   have dv := ((Upd.of_below (S := fun i => B ≤ i) aa).trans D (fun k e _ => ag.out.b.ge e)).trans (Upd.set (S := fun k => k = m) (p := ⟨m, 2, none⟩) rfl (.slice ra rn rc)) (fun k e _ => by rw [show k = m from e]; exact ag.out.mB); have dl := qq M9; clear M9 D; go_wp2; go_end0; rw [hRh.out, qk (by simp), qk (by simp), qk (by rw [d0.out]; simp)]; refine aip ?_ dl.out dv; unfold StT.s; dsimp only; rw [ann, ← bd.out]; rfl
theorem bb5 {k : Int} (h : us k ≠ 0) : k = 1 ∨ k = 2 ∨ k = 3 ∨ k = 4 ∨ k = 5 ∨ k = 6 ∨ k = 7 ∨ k = 8 ∨ k = 9 := by
 unfold us at h
 repeat (first | omega | split at h)
def ak0 (k : Int) : Nat := if k = 1 then 30 else if k = 2 then 31 else if k = 3 then 32 else if k = 4 then 33 else if k = 5 then 34 else if k = 6 then 35 else if k = 7 then 36 else if k = 8 then 37 else if k = 9 then 38 else 0
def hK (m : Nat) (i : Int) : Option Value := if i = 9 then some (.func (.func 38) #[.pointer (some ⟨m, 0, none⟩)] #[]) else if i = 8 then some (.func (.func 37) #[.pointer (some ⟨m, 0, none⟩)] #[]) else if i = 7 then some (.func (.func 36) #[.pointer (some ⟨m, 0, none⟩)] #[]) else if i = 6 then some (.func (.func 35) #[.pointer (some ⟨m, 0, none⟩)] #[]) else if i = 5 then some (.func (.func 34) #[.pointer (some ⟨m, 0, none⟩)] #[]) else if i = 4 then some (.func (.func 33) #[.pointer (some ⟨m, 0, none⟩)] #[]) else if i = 3 then some (.func (.func 32) #[.pointer (some ⟨m, 0, none⟩)] #[]) else if i = 2 then some (.func (.func 31) #[.pointer (some ⟨m, 0, none⟩)] #[]) else if i = 1 then some (.func (.func 30) #[.pointer (some ⟨m, 0, none⟩)] #[]) else none
theorem bdr {m : Nat} {k : Int} (h : us k ≠ 0) : hK m k = some (.func (.func (ak0 k)) #[.pointer (some ⟨m, 0, none⟩)] #[]) := by
 rcases bb5 h with rfl | rfl | rfl | rfl | rfl | rfl | rfl | rfl | rfl <;> rfl
theorem ar1 {k : Int} (h : us k ≠ 0) (args : Array Value) (w : World) : (callFunc (ak0 k) args).run prog w = .ok (.enter (ak0 k) args) w := by
 rcases bb5 h with rfl | rfl | rfl | rfl | rfl | rfl | rfl | rfl | rfl <;> kernel_rfl
theorem ar2 {l : List Br} {b : Br} (E : b ∈ l) (r : Rf) : aa8 b.zy r ≤ aa8 (ace l) r := by
 obtain ⟨D, A, rfl⟩ := List.append_of_mem E
 have e : ace (D ++ b :: A) = ace D ++ (b.zy ++ ace A) := by unfold ace; rw [List.flatMap_append, List.flatMap_cons]
 rw [e, aa6, aa6]; omega
theorem aqv {t : StT} (h : t.s.Rt) : ∀ b ∈ t.zk, BrOk t.qs b := by
 intro b J
 have D : b.b ∈ t.s.zk := jw J
 obtain ⟨F, G, I⟩ := h.b _ D
 have A := ame F
 refine ⟨fun p E => ⟨G _ (jw E), ?_⟩, fun r H => ⟨I r H, jk (ar2 D r) (amd h.bt r)⟩, ?_, ?_⟩
 ·have := A.1 _ (jw (f := PtT.p) E)
  unfold Pt.okB at this; simp only [jj] at this; exact this.2
 ·have : b.b.zu.length ≤ 100 := A.2.1
  have e : b.b.zu.length = b.zu.length := jf _; omega
 ·have : b.b.zy.length ≤ 100 := A.2.2.1
  have e : b.b.zy.length = b.zy.length := rfl; omega
theorem au6 {e : EnT} (h : e.e.okB = true) : PutsOk e.zu ∧ e.zy.length ≤ 1000000 ∧ us e.kind ≠ 0 := by
 unfold En.okB at h
 simp only [jj, jt, qm, Bool.not_eq_true', ju] at h
 obtain ⟨⟨⟨⟨⟨⟨⟨⟨G, -⟩, -⟩, -⟩, -⟩, K⟩, J⟩, E⟩, -⟩ := h
 have M : e.e.zu.length = e.zu.length := jf _
 have I : e.e.zy.length = e.zy.length := rfl
 refine ⟨⟨fun x D => ?_, fun x D => ?_, by omega⟩, by omega, G⟩
 ·have := E _ (jw (f := PtT.p) D)
  unfold Pt.okB at this; simp only [jj] at this; exact this.2
 ·have := E _ (jw (f := PtT.p) D)
  unfold Pt.okB ah2 at this; simp only [jj, Bool.or_eq_true, qm] at this; obtain ⟨⟨⟨⟨-, F⟩, A⟩, -⟩, -⟩ := this; have H : x.p.id = x.id := rfl; rw [H] at F A; rcases A with A | A
  ·rw [A, beq_iff_eq, jj, qm, qm] at F
   omega
  ·rw [A]; omega
def ad3 (ek : Int) : Prop := ∀ (w : World) (B m : Nat) (nx : Int) (qa : Option Addr) (qc : Nat) (ba : Option Addr) (bc : Nat) (ha : Option Addr) (hc : Nat) (qs : List QuT) (zk : List BrT) (hs_ : List He) (en : ByteArray) (ei : Int) (xf : Int) (xg xb : ByteArray) (pa : Option Addr) (pc : Nat) (ta : Option Addr) (tc : Nat) (zu : List PtT) (zy : List Rf), MkS B m (.slice none 0 0) w (StT.mk nx (.slice qa qs.length qc) (.slice ba zk.length bc) (.slice ha hs_.length hc) qs zk hs_) → B ≤ w.heap.size → EnRd (fun i => i < B) w (EnT.mk ek en ei (xf, xg, xb) (.slice pa zu.length pc) (.slice ta zy.length tc) zu zy) → (StT.mk nx (.slice qa qs.length qc) (.slice ba zk.length bc) (.slice ha hs_.length hc) qs zk hs_).s.Rt → (EnT.mk ek en ei (xf, xg, xb) (.slice pa zu.length pc) (.slice ta zy.length tc) zu zy).e.okB = true → StSm (StT.mk nx (.slice qa qs.length qc) (.slice ba zk.length bc) (.slice ha hs_.length hc) qs zk hs_) → (∀ u, Upd (fun i => B ≤ i) w u → Tb u) →
 Calls prog (ak0 ek) #[.pointer (some ⟨m, 0, none⟩), .agg #[.int .u8 ek, .string en, .int .u64 ei, .int .u32 xf, .string xg, .string xb, .slice pa zu.length pc, .slice ta zy.length tc]] w (ag9 B m w ((StT.mk nx (.slice qa qs.length qc) (.slice ba zk.length bc) (.slice ha hs_.length hc) qs zk hs_).s.kind (EnT.mk ek en ei (xf, xg, xb) (.slice pa zu.length pc) (.slice ta zy.length tc) zu zy).e))
theorem aly {O : Int} {w : World} {B : Nat} {nx : Int} {U : Option Addr} {qc : Nat} {Z : Option Addr} {J : Nat} {K : Option Addr} {Y : Nat} {qs : List QuT} {zk : List BrT} {hs_ : List He} {en : ByteArray} {F : Int} {E : Int} {I h : ByteArray} {W : Option Addr} {N : Nat} {M : Option Addr} {X : Nat} {D : List PtT} {A : List Rf} (G : EnRd (fun i => i < B) w (EnT.mk O en F (E, I, h) (.slice W D.length N) (.slice M A.length X) D A)) (hs : (StT.mk nx (.slice U qs.length qc) (.slice Z zk.length J) (.slice K hs_.length Y) qs zk hs_).s.Rt) (he : (EnT.mk O en F (E, I, h) (.slice W D.length N) (.slice M A.length X) D A).e.okB = true) (z : StSm (StT.mk nx (.slice U qs.length qc) (.slice Z zk.length J) (.slice K hs_.length Y) qs zk hs_)) :
 PutsOk D ∧ A.length ≤ 1000000 ∧ qsB nx (qs.map QuT.q) = true ∧ RisK aav BrT.x zk ∧ RisK aav He.x hs_ ∧ (∀ b ∈ zk, BrOk qs b) ∧ (0 ≤ E ∧ E < 4294967296) ∧ (0 ≤ F ∧ F < 18446744073709551616) ∧ (1 ≤ nx ∧ nx ≤ 1099511627777) ∧ QsOk qs := by
 obtain ⟨hp, hl, hu⟩ := au6 he
 have H : qsB nx (qs.map QuT.q) = true := by
  have := ao3.2 hs; unfold St.okB at this; simp only [jj] at this; exact this.1.1.2
 exact ⟨hp, hl, H, (ad6 (c := aav) (k := Br.x) (g := BrT.b)).1 hs.ba, hs.ha, aqv hs, ⟨G.wf.x0, G.wf.x1⟩, ⟨G.wf.n0, G.wf.n1⟩, ⟨hs.n0, hs.n1⟩, z.ok H⟩
theorem axy : ad3 1 := by
 intro w B m nx M qc Z H I Y qs zk hs_ en U G F h N K J O zu zy X E hE hs W A ae
 obtain ⟨hp, hl, D, ac, aa, ad, hx, z, ab, hQ⟩ := aly hE hs W A
 unfold St.kind
 show Calls prog (ak0 1) _ w (ag9 B m w (if (1 : Int) = 1 then _ else _))
 exact aux w B m nx M qc Z H I Y qs zk hs_ 1 en U G F h N zu.length K J zy.length O _ X E rfl rfl D A.q z
theorem baa : ad3 2 := by
 intro w B m nx M qc Z H I Y qs zk hs_ en U G F h N K J O zu z X E hE hs W A ae
 obtain ⟨hp, hl, D, ac, aa, ad, hx, hn, ab, hQ⟩ := aly hE hs W A
 unfold St.kind
 show Calls prog (ak0 2) _ w (ag9 B m w (if (2 : Int) = 1 then _ else _))
 exact axu w B m nx M qc Z H I Y qs zk hs_ 2 en U G F h N zu.length K J z.length O _ X E rfl D A.q A.b
theorem bb6 : ad3 3 := by
 intro w B m nx O qc ba J K hc qs zk hs_ en Y I H xb U N M W zu zy h F D hs Z A G
 obtain ⟨z, X, E, ac, aa, ad, hx, hn, ab, hQ⟩ := aly D hs Z A
 unfold St.kind
 show Calls prog (ak0 3) _ w (ag9 B m w (if (3 : Int) = 1 then _ else _))
 exact az8 w B m nx O qc ba J K hc qs zk hs_ 3 en Y I H xb U N M W zu zy h F D E A z X G
theorem au7 : ad3 4 := by
 intro w B m nx W qc ba M N hc qs zk hs_ en h K J xb X U O Y zu zy hM G D hs z A I
 obtain ⟨hp, Z, F, H, E, ab, hx, hn, aa, hQ⟩ := aly D hs z A
 unfold St.kind
 show Calls prog (ak0 4) _ w (ag9 B m w (if (4 : Int) = 1 then _ else _))
 exact au5 w B m nx W qc ba M N hc qs zk hs_ 4 en h K J xb X U O Y zu zy hM G D F H E A hp Z I
theorem au8 : ad3 6 := by
 intro w B m nx W qc ba K M z qs zk hs_ en Z J I xb X U O Y zu zy F G hE hs h D ae
 obtain ⟨hp, hl, ac, H, ab, E, hx, hn, ad, hQ⟩ := aly hE hs h D
 unfold St.kind
 show Calls prog (ak0 6) _ w (ag9 B m w (if (6 : Int) = 1 then _ else _))
 exact (axv w B m nx W qc ba K M z qs zk hs_ 6 en Z J I xb X zu.length U O zy.length Y _ F G rfl H hQ D.b (fun b A r N => ((E b A).tm r N).1) (fun b A => (E b A).tl)).mono (fun _ _ aa => aa.ap F)
theorem aqw {t : StT} (h : t.s.Rt) : (∀ q ∈ t.qs, ∀ m ∈ q.zw, m.pr.p.smallB = true) ∧ ∀ b ∈ t.zk, (∀ p ∈ b.zu, p.pr.p.smallB = true) ∧ b.zu.length ≤ 1000000 ∧ b.zy.length ≤ 1000000 := by
 refine ⟨fun q E m D => ?_, fun b A => ⟨fun p F => ((aqv h b A).pq p F).2, (aqv h b A).pl, (aqv h b A).tl⟩⟩
 have := ((h.q _ (jw E)).ms _ (jw D)).2.2
 unfold Ms.okB at this
 rw [jj] at this
 exact this.2
theorem StOw.open {B : Nat} {w : World} {t : StT} (h : StOw B w t) : ∃ (n : Int) (G : Option Addr) (qc : Nat) (D : Option Addr) (E : Nat) (F : Option Addr) (A : Nat) (qs : List QuT) (zk : List BrT) (hs : List He),
 t = StT.mk n (.slice G qs.length qc) (.slice D zk.length E) (.slice F hs.length A) qs zk hs := by
 obtain ⟨n, qv, bv, H, qs, zk, hs⟩ := t
 obtain ⟨G, qc, rfl, -⟩ : ∃ a c, qv = .slice a qs.length c ∧ qs.length ≤ maxLen := (h.q.slc aaf).len
 obtain ⟨D, E, rfl, -⟩ : ∃ a c, bv = .slice a zk.length c ∧ zk.length ≤ maxLen := (h.b.slc aag).len
 obtain ⟨F, A, rfl, -⟩ : ∃ a c, H = .slice a hs.length c ∧ hs.length ≤ maxLen := (h.h.slc adi).len
 exact ⟨n, G, qc, D, E, F, A, qs, zk, hs, rfl⟩
theorem EnRd.below {P : Nat → Prop} {w : World} {t : EnT} (h : EnRd P w t) {B : Nat} (A : w.heap.size ≤ B) : EnRd (fun i => i < B) w t :=
 ⟨h.p, fun k e n => jg (aez aae (by omega) h.p n k e) A, fun x D => (h.r x D).lt.weaken (fun i hi _ => jg hi A), h.s, fun k e n => jg (aez aa9 (by omega) h.s n k e) A, h.wf⟩
theorem StSm.same {t A : StT} (h : StSm t) (e : A.s = t.s) : StSm A := by
 have D : A.qs.map QuT.q = t.qs.map QuT.q := congrArg St.qs e
 refine ⟨?_, fun q G => ?_, ?_, ?_⟩
 ·have := congrArg List.length D; rw [jf, jf] at this; rw [this]; exact h.q
 ·have F : q.q ∈ t.qs.map QuT.q := by rw [← D]; exact jw G
  obtain ⟨p, H, E⟩ := jv.1 F; have := congrArg (fun x => x.zw.length) E; have : p.zw.length = q.zw.length := by simpa [QuT.q] using this
  rw [← this]; exact h.m p H
 ·have := congrArg (fun x => x.zk.length) e
  have : A.zk.length = t.zk.length := by simpa [StT.s] using this
  rw [this]; exact h.b
 ·have : A.hs = t.hs := congrArg St.hs e
  rw [this]; exact h.h
def avr (q : St × Int) : Prop := (∃ g, q = no g) ∨ q.2 = 0
theorem air {c : Prop} [Decidable c] {a b : St × Int} (D : avr a) (A : avr b) : avr (if c then a else b) := by
 split
 ·exact D
 ·exact A
theorem aki (g : Int) : avr (no g) := .inl ⟨g, rfl⟩
theorem amr (t : St) : avr (t, 0) := .inr rfl
theorem an6 {q : St × Int} {x : Xn} {c : Bool} (h : avr q) : avr (ao2 q x c) := by
 unfold ao2
 exact air (amr _) h
theorem bds {s : St} {e : En} (F : ¬ (s.ap e).2 = 0) {f : Int} (E : (s.ap e).2 = f) : s.ap e = no f := by
 subst E
 have D : avr (s.commit e) := by
  unfold St.commit; split
  ·exact aki _
  ·exact air (aki _) (air (aki _) (amr _))
 have A : avr (s.back e) := by
  unfold St.back; split
  ·exact aki _
  ·exact amr _
 have h : avr (s.ap e) := by
  unfold St.ap St.kind St.queue St.drop St.doE St.prep St.forget
  repeat' (first | exact aki _ | exact amr _ | exact D | exact A | exact an6 D | exact an6 A | apply air)
 rcases h with ⟨g, h⟩ | h
 ·rw [h]; rfl
 ·exact jp h F
def bdz (s : St) (e : En) (w : World) (r : Ending) (w' : World) : Prop := ∃ t' : StT, r = .returned (.tuple #[t'.arg, .int .i64 (s.ap e).2]) ∧ t'.s = (s.ap e).1 ∧ StOw w.heap.size w' t' ∧ Below w.heap.size w w'
theorem apr {s : St} {e : En} {w w' : World} {f : Int} (h : s.ap e = no f) (A : Below w.heap.size w w') : bdz s e w (.returned (.tuple #[.agg #[.int .u64 0, .slice none 0 0, .slice none 0 0, .slice none 0 0], .int .i64 f])) w' :=
 ⟨StT.zero, by rw [h]; rfl, by rw [h]; rfl, StOw.zero _ _, A⟩
theorem an7 (cg : ayk) {k : Int} (cb : ad3 k) (w : World) (t : StT) (e : EnT) (P : Nat → Prop) (hR : StRd P w t) (hE : EnRd P w e) (hT : Tb w) (hS : StSm t) (hk : e.kind = k := by rfl) :
 Calls prog 12 #[t.arg, e.arg] w (bdz t.s e.e w) := by
 obtain ⟨nx, qa, qc, ba, bc, ha, hc, qs, zk, hs, rfl, -, -, -⟩ := hR.open
 obtain ⟨J, en, Z, U, z, xb, pa, pc, W, X, G, H, rfl, -, -⟩ := hE.open
 obtain rfl : J = k := hk
 have cr := qq cb
 clear cb
 rw [StT.arg_mk]
 show Calls _ _ #[_, .agg #[.int .u8 J, .string en, .int .u64 Z, .int .u32 U, .string z, .string xb, .slice pa G.length pc, .slice W H.length X]] w _
 have c9 : ∀ (fn : Fn) (first ce : Array Value) (w : World), (Instr.makeFunc fn first ce).run prog w = .ok (.func fn first ce) w := fun _ _ _ _ => rfl
 obtain ⟨u, hu⟩ := zj ((((w.alloc (.cells #[.int .u64 nx, .slice qa qs.length qc, .slice ba zk.length bc, .slice ha hs.length hc] 27)).alloc (.cells #[.int .u8 J, .string en, .int .u64 Z, .int .u32 U, .string z, .string xb, .slice pa G.length pc, .slice W H.length X] 34)).alloc (.cells #[.int .u64 0, .slice none 0 0, .slice none 0 0, .slice none 0 0] 27)).alloc (.cells #[.int .i64 0] 41))
 have ac : Below w.heap.size w u := by rw [hu]; exact ((((qz _ _).alloc (qj _) _).alloc (by simp) _).alloc (by simp; omega) _).alloc (by simp; omega) _
 have S4 : Blk u w.heap.size [.int .u64 nx, .slice qa qs.length qc, .slice ba zk.length bc, .slice ha hs.length hc] := by rw [hu]; exact (((Blk.new w _ 27).alloc _).alloc _).alloc _
 have E4 : Blk u (w.heap.size + 1) [.int .u8 J, .string en, .int .u64 Z, .int .u32 U, .string z, .string xb, .slice pa G.length pc, .slice W H.length X] := by rw [hu]; exact ((Blk.newE _ _ 34 (w.heap.size + 1) (by simp)).alloc _).alloc _
 have O4 : Blk u (w.heap.size + 1 + 1) [.int .u64 0, .slice none 0 0, .slice none 0 0, .slice none 0 0] := by rw [hu]; exact (Blk.newE _ _ 27 (w.heap.size + 1 + 1) (by simp)).alloc _
 have N4 : Blk u (w.heap.size + 1 + 1 + 1) [.int .i64 0] := by rw [hu]; exact Blk.newE _ _ 41 (w.heap.size + 1 + 1 + 1) (by simp)
 have c7 : w.heap.size + 4 = u.heap.size := by rw [hu]; simp
 have b4 := qq hu
 clear hu
 have ab := qq (fun (v : World) (h : Below w.heap.size w v) => ajx cg v (StT.mk nx (.slice qa qs.length qc) (.slice ba zk.length bc) (.slice ha hs.length hc) qs zk hs) P (hR.pure h) (hT.pure h) hS)
 have O := qq (fun (v : World) (h : Below w.heap.size w v) => cg (EnT.mk J en Z (U, z, xb) (.slice pa G.length pc) (.slice W H.length X) G H) P v (hE.pure h) (hT.pure h))
 obtain ⟨s, bn⟩ : ∃ s, (StT.mk nx (.slice qa qs.length qc) (.slice ba zk.length bc) (.slice ha hs.length hc) qs zk hs).s = s := ⟨_, rfl⟩
 obtain ⟨N, bm⟩ : ∃ e, (EnT.mk J en Z (U, z, xb) (.slice pa G.length pc) (.slice W H.length X) G H).e = e := ⟨_, rfl⟩
 rw [bn, bm]
 rw [bn] at ab; rw [bm] at O
 rw [StT.arg_mk] at ab
 rw [show (EnT.mk J en Z (U, z, xb) (.slice pa G.length pc) (.slice W H.length X) G H).arg = .agg #[.int .u8 J, .string en, .int .u64 Z, .int .u32 U, .string z, .string xb, .slice pa G.length pc, .slice W H.length X] from rfl] at O
 have bg := qq bn; have b0 := qq bm
 have cu := qq hR; have b5 := qq hE; have cm := qq hT; have cd := qq hS
 clear bn bm hR hE hT hS
 obtain ⟨s0, s1, s2, s3⟩ := S4.a4
 obtain ⟨c1, I⟩ := qx s.okB
 cases c1
 ·have ae : s.ap N = no 140 := by unfold St.ap; rw [qw I]
  have K : s.chk = 140 := bb2 I; rw [K] at ab; have bb := qq (ab.out u ac); have aj := qq ae; clear ab I ae K O; go_enter_defers func12, ntmps12; go_upto_region 1 with fail; rw [← b4.out]; go_wp2_with (go_at_call 15; (with_reducible refine bb.out.mono ?_); rintro r w2 ⟨rfl, D⟩; have O2 := O4.pure D; have N2 := N4.pure D; obtain ⟨o0, o1, o2, o3⟩ := O2.a4; have n0 := N2.at 0 rfl; obtain ⟨f0, f1, f2, f3⟩ := O2.f4; have f4 := N2.frozen 0); have O9 := (((((O2.set 0 (.int .u64 0)).set 1 (.slice none 0 0)).set 2 (.slice none 0 0)).set 3 (.slice none 0 0)).other ⟨w.heap.size + 1 + 1 + 1, 0, none⟩ (.int .i64 140) (by simp only; omega)); have N9 := (((((N2.other ⟨w.heap.size + 1 + 1, 0, none⟩ (.int .u64 0) (by simp only; omega)).other ⟨w.heap.size + 1 + 1, 1, none⟩ (.slice none 0 0) (by simp only; omega)).other ⟨w.heap.size + 1 + 1, 2, none⟩ (.slice none 0 0) (by simp only; omega)).other ⟨w.heap.size + 1 + 1, 3, none⟩ (.slice none 0 0) (by simp only; omega)).set 0 (.int .i64 140)); obtain ⟨p0, p1, p2, p3⟩ := O9.a4; have p4 := N9.at 0 rfl; have ad := (((((Upd.set (S := OutS (w.heap.size + 1 + 1)) (w := w2) (p := ⟨w.heap.size + 1 + 1, 0, none⟩) (Or.inl rfl) (.int .u64 0)).trans (Upd.set (S := OutS (w.heap.size + 1 + 1)) (p := ⟨w.heap.size + 1 + 1, 1, none⟩) (Or.inl rfl) (.slice none 0 0)) (fun _ h _ => h)).trans (Upd.set (S := OutS (w.heap.size + 1 + 1)) (p := ⟨w.heap.size + 1 + 1, 2, none⟩) (Or.inl rfl) (.slice none 0 0)) (fun _ h _ => h)).trans (Upd.set (S := OutS (w.heap.size + 1 + 1)) (p := ⟨w.heap.size + 1 + 1, 3, none⟩) (Or.inl rfl) (.slice none 0 0)) (fun _ h _ => h)).trans (Upd.set (S := OutS (w.heap.size + 1 + 1)) (p := ⟨w.heap.size + 1 + 1 + 1, 0, none⟩) (Or.inr rfl) (.int .i64 140)) (fun _ h _ => h)); refine ⟨_, (by simp [results, Tryz.results12, go_sem, p0, p1, p2, p3, p4]; try rfl), apr aj.out ?_⟩; exact (Upd.below ((Upd.of_below (S := fun k => w.heap.size ≤ k) (ac.trans (D.mono ac.size))).trans ad (fun k h _ => by unfold OutS at h; omega)) (qj _) (fun k h => h))
 have cl := ao3.1 I
 have K : s.chk = 0 := awg.2 I
 rw [K] at ab
 have bb := qq (ab.out u ac)
 have bx := qq cl; have ca := qq I
 obtain ⟨c2, F⟩ := qx N.okB
 clear ab I K cl
 cases c2
 ·have ae : s.ap N = no 130 := by unfold St.ap; rw [qk (by rw [ca.out]; simp), qw F]
  have K : N.chk = 130 := by unfold En.chk; rw [F]; rfl
  rw [K] at O; have b2 := qq O.out; have aj := qq ae; clear F ae K O; go_enter_defers func12, ntmps12; go_upto_region 1 with fail; rw [← b4.out]; go_wp2_with (first | (go_at_call 15; (with_reducible refine bb.out.mono ?_); rintro r w2 ⟨rfl, D⟩; have O2 := O4.pure D; have N2 := N4.pure D; have E2 := E4.pure D; obtain ⟨e0, e1, e2, e3, e4, e5, e6, e7⟩ := E2.a8; have af := ac.trans (D.mono ac.size)) | (go_at_call 27; (with_reducible refine (b2.out _ af).mono ?_); rintro r Y ⟨rfl, M⟩; have O3 := O2.pure M; have N3 := N2.pure M; have ak := af.trans (M.mono af.size); obtain ⟨o0, o1, o2, o3⟩ := O3.a4; have n0 := N3.at 0 rfl; obtain ⟨f0, f1, f2, f3⟩ := O3.f4; have f4 := N3.frozen 0)); have O9 := (((((O3.set 0 (.int .u64 0)).set 1 (.slice none 0 0)).set 2 (.slice none 0 0)).set 3 (.slice none 0 0)).other ⟨w.heap.size + 1 + 1 + 1, 0, none⟩ (.int .i64 130) (by simp only; omega)); have N9 := (((((N3.other ⟨w.heap.size + 1 + 1, 0, none⟩ (.int .u64 0) (by simp only; omega)).other ⟨w.heap.size + 1 + 1, 1, none⟩ (.slice none 0 0) (by simp only; omega)).other ⟨w.heap.size + 1 + 1, 2, none⟩ (.slice none 0 0) (by simp only; omega)).other ⟨w.heap.size + 1 + 1, 3, none⟩ (.slice none 0 0) (by simp only; omega)).set 0 (.int .i64 130)); obtain ⟨p0, p1, p2, p3⟩ := O9.a4; have p4 := N9.at 0 rfl; have ad := (((((Upd.set (S := OutS (w.heap.size + 1 + 1)) (w := Y) (p := ⟨w.heap.size + 1 + 1, 0, none⟩) (Or.inl rfl) (.int .u64 0)).trans (Upd.set (S := OutS (w.heap.size + 1 + 1)) (p := ⟨w.heap.size + 1 + 1, 1, none⟩) (Or.inl rfl) (.slice none 0 0)) (fun _ h _ => h)).trans (Upd.set (S := OutS (w.heap.size + 1 + 1)) (p := ⟨w.heap.size + 1 + 1, 2, none⟩) (Or.inl rfl) (.slice none 0 0)) (fun _ h _ => h)).trans (Upd.set (S := OutS (w.heap.size + 1 + 1)) (p := ⟨w.heap.size + 1 + 1, 3, none⟩) (Or.inl rfl) (.slice none 0 0)) (fun _ h _ => h)).trans (Upd.set (S := OutS (w.heap.size + 1 + 1)) (p := ⟨w.heap.size + 1 + 1 + 1, 0, none⟩) (Or.inr rfl) (.int .i64 130)) (fun _ h _ => h)); refine ⟨_, (by simp [results, Tryz.results12, go_sem, p0, p1, p2, p3, p4]; try rfl), apr aj.out ?_⟩; exact (Upd.below ((Upd.of_below (S := fun k => w.heap.size ≤ k) ak).trans ad (fun k h _ => by unfold OutS at h; omega)) (qj _) (fun k h => h))
 have K : N.chk = 0 := by unfold En.chk; rw [F]; rfl
 rw [K] at O
 have b2 := qq O.out
 have ae : s.ap N = s.kind N := by unfold St.ap; rw [qk (by rw [ca.out]; simp), qk (by rw [F]; simp)]
 have aj := qq ae; have b9 := qq F
 have b1 := qq (fun (v : World) (h : Below w.heap.size w v) => au0 v (StT.mk nx (.slice qa qs.length qc) (.slice ba zk.length bc) (.slice ha hs.length hc) qs zk hs) P (cu.out.pure h) (cm.out.pure h) cd.out (aqw (by rw [bg.out]; exact bx.out)).1 (aqw (by rw [bg.out]; exact bx.out)).2)
 rw [StT.arg_mk, bg.out] at b1
 clear F ae K O
 go_enter_defers func12, ntmps12
 go_upto_region 1 with fail
 rw [← b4.out]
 go_upto_region 8 with (first | (go_at_call 15; (with_reducible refine bb.out.mono ?_); rintro r w2 ⟨rfl, D⟩; have O2 := O4.pure D; have N2 := N4.pure D; have E2 := E4.pure D; obtain ⟨e0, e1, e2, e3, e4, e5, e6, e7⟩ := E2.a8; have af := ac.trans (D.mono ac.size)) | (go_at_call 27; (with_reducible refine (b2.out _ af).mono ?_); rintro r Y ⟨rfl, M⟩; have O3 := O2.pure M; have N3 := N2.pure M; have ak := af.trans (M.mono af.size); have S3 := (S4.pure D).pure M; obtain ⟨s4, s5, s6, s7⟩ := S3.a4))
 clear s0 s1 s2 s3 e0 e1 e2 e3 e4 e5 e6 e7
 go_upto_region 9 with (go_at_call 29; (with_reducible refine (b1.out _ ak).mono ?_); rintro r A ⟨t1, rfl, aw, bp, b3⟩; obtain ⟨n1, bu, bj, bl, bk, bt, I, an, am, az, rfl⟩ := bp.open; rw [StT.arg_mk]; have aw := qq aw; have bp := qq bp)
 clear s4 s5 s6 s7 b1 S3
 have c0 : w.heap.size + 4 ≤ Y.heap.size := by have := D.size; have := M.size; omega
 have M5 := MkS.of bp.out b3.size
 have cc := (qz A.heap.size A).alloc (qj _) (.cells #[.int .u64 n1, .slice bu an.length bj, .slice bl am.length bk, .slice bt az.length I] 81)
 have aa := b3.trans (cc.mono b3.size)
 obtain ⟨E, av⟩ := zj (A.alloc (.cells #[.int .u64 n1, .slice bu an.length bj, .slice bl am.length bk, .slice bt az.length I] 81))
 have M5 : MkS Y.heap.size A.heap.size (.slice none 0 0) E (StT.mk n1 (.slice bu an.length bj) (.slice bl am.length bk) (.slice bt az.length I) an am az) := by rw [av]; exact M5
 have da : A.heap.size < E.heap.size := by rw [av]; simp
 have E5 := ((E4.pure D).pure M).pure (by rw [← av] at aa; exact aa)
 rw [← av] at cc aa ⊢
 clear av
 have F0 : FnM (E.alloc (.map #[] 0)) E.heap.size (fun _ => none) 0 := MapG.made E
 have ch := (qz E.heap.size E).alloc (qj _) (.map #[] 0)
 have b7 : (Instr.makeMap 83 none).run prog E = .ok (.map (some E.heap.size)) (E.alloc (.map #[] 0)) := by kernel_rfl
 obtain ⟨x0, cn⟩ := zj (E.alloc (.map #[] 0))
 rw [← cn] at F0 ch b7
 clear cn
 obtain ⟨x1, r1, ⟨k1, cz, F1⟩, u1⟩ := ahb F0 (by omega) 1 ⟨by omega, by omega⟩ (.func (.func 30) #[.pointer (some ⟨A.heap.size, 0, none⟩)] #[])
 obtain ⟨x2, r2, ⟨k2, cx, F2⟩, u2⟩ := ahb F1 (by omega) 2 ⟨by omega, by omega⟩ (.func (.func 31) #[.pointer (some ⟨A.heap.size, 0, none⟩)] #[])
 obtain ⟨x3, r3, ⟨k3, c4, F3⟩, u3⟩ := ahb F2 (by omega) 3 ⟨by omega, by omega⟩ (.func (.func 32) #[.pointer (some ⟨A.heap.size, 0, none⟩)] #[])
 obtain ⟨x4, r4, ⟨k4, db, F4⟩, u4⟩ := ahb F3 (by omega) 4 ⟨by omega, by omega⟩ (.func (.func 33) #[.pointer (some ⟨A.heap.size, 0, none⟩)] #[])
 obtain ⟨x5, r5, ⟨k5, cy, F5⟩, u5⟩ := ahb F4 (by omega) 5 ⟨by omega, by omega⟩ (.func (.func 34) #[.pointer (some ⟨A.heap.size, 0, none⟩)] #[])
 obtain ⟨x6, r6, ⟨k6, c6, F6⟩, u6⟩ := ahb F5 (by omega) 6 ⟨by omega, by omega⟩ (.func (.func 35) #[.pointer (some ⟨A.heap.size, 0, none⟩)] #[])
 obtain ⟨x7, r7, ⟨k7, c3, F7⟩, u7⟩ := ahb F6 (by omega) 7 ⟨by omega, by omega⟩ (.func (.func 36) #[.pointer (some ⟨A.heap.size, 0, none⟩)] #[])
 obtain ⟨x8, r8, ⟨k8, c8, F8⟩, u8⟩ := ahb F7 (by omega) 8 ⟨by omega, by omega⟩ (.func (.func 37) #[.pointer (some ⟨A.heap.size, 0, none⟩)] #[])
 obtain ⟨x9, r9, ⟨k9, c5, F9⟩, u9⟩ := ahb F8 (by omega) 9 ⟨by omega, by omega⟩ (.func (.func 38) #[.pointer (some ⟨A.heap.size, 0, none⟩)] #[])
 have ao : Below E.heap.size E x9 := Upd.below ((((((((((Upd.of_below (S := fun k => k = E.heap.size) ch).trans u1 (fun _ e _ => e)).trans u2 (fun _ e _ => e)).trans u3 (fun _ e _ => e)).trans u4 (fun _ e _ => e)).trans u5 (fun _ e _ => e)).trans u6 (fun _ e _ => e)).trans u7 (fun _ e _ => e)).trans u8 (fun _ e _ => e)).trans u9 (fun _ e _ => e)) (qj _) (fun k e => by have e : k = E.heap.size := e; omega)
 have E9 := E5.pure ao
 have M9 := M5.pure ao
 have bq : us J ≠ 0 := by
  have h := (au6 (e := (EnT.mk J en Z (U, z, xb) (.slice pa G.length pc) (.slice W H.length X) G H)) (by rw [b0.out]; exact b9.out)).2.2; exact h
 have ck : FnM x9 E.heap.size (hK A.heap.size) k9 := F9
 have bw := ck.look_run au3 (u := J) ⟨b5.out.wf.k0, by have : J < 256 := b5.out.wf.k1; omega⟩
 rw [bdr bq, Option.getD_some] at bw
 have cj := ar1 bq
 have bd := ak.trans ((aa.trans (ao.mono aa.size)).mono ak.size)
 have b6 := cr.out x9 Y.heap.size A.heap.size n1 bu bj bl bk bt I an am az en Z U z xb pa pc W X G H M9 (jk aa.size ao.size) ((b5.out.below (by omega)).pure bd) (by rw [aw.out]; exact bx.out) (by rw [b0.out]; exact b9.out) (cd.out.same (by rw [aw.out, bg.out])) (fun v hv => cm.out.pure (bd.trans (hv.below (by have := bd.size; omega) (fun k e => by have e : Y.heap.size ≤ k := e; omega))))
 rw [aw.out, b0.out, ← aj.out] at b6
 have cs := qq b6; have bq := qq bq
 obtain ⟨e0, e1, e2, e3, e4, e5, e6, e7⟩ := E9.a8
 clear b6 M9 F0 F1 F2 F3 F4 F5 F6 F7 F8 F9 ck u1 u2 u3 u4 u5 u6 u7 u8 u9
 go_wp2
 refine cs.out.mono ?_
 rintro r cf ⟨bf, al⟩
 have b8 := aa.trans (ao.mono aa.size)
 have bi := (O3.pure b8).upd al (fun e => by have e : Y.heap.size ≤ w.heap.size + 1 + 1 := e; omega)
 have br := (N3.pure b8).upd al (fun e => by have e : Y.heap.size ≤ w.heap.size + 1 + 1 + 1 := e; omega)
 have bo := Upd.below ((Upd.of_below (S := fun k => w.heap.size ≤ k) bd).trans al (fun k e _ => by have e : Y.heap.size ≤ k := e; omega)) (qj _) (fun k h => h)
 by_cases hz : (s.ap N).2 = 0
 ·rw [qw hz] at bf
  obtain ⟨rfl, t2, ci, bh⟩ := bf; obtain ⟨n2, ax, ar, aq, ay, au, F, ah, ag, ai, rfl⟩ := bh.ow.open; have cw : Blk cf A.heap.size [.int .u64 n2, .slice ax ah.length ar, .slice aq ag.length ay, .slice au ai.length F] := bh.a.blk; have cp := qq bh; have cq := qq ci; have co := qq hz; obtain ⟨a0, a1, a2, a3⟩ := cw.a4; obtain ⟨o0, o1, o2, o3⟩ := bi.a4; have n0 := br.at 0 rfl; obtain ⟨f0, f1, f2, f3⟩ := bi.f4; have f4 := br.frozen 0; clear bh ci hz e0 e1 e2 e3 e4 e5 e6 e7 bw r1 r2 r3 r4 r5 r6 r7 r8 r9 b7 al cj; go_wp2; have O9 := (((((bi.set 0 (.int .u64 n2)).set 1 (.slice ax ah.length ar)).set 2 (.slice aq ag.length ay)).set 3 (.slice au ai.length F)).other ⟨w.heap.size + 1 + 1 + 1, 0, none⟩ (.int .i64 0) (by simp only; omega)); have N9 := (((((br.other ⟨w.heap.size + 1 + 1, 0, none⟩ (.int .u64 n2) (by simp only; omega)).other ⟨w.heap.size + 1 + 1, 1, none⟩ (.slice ax ah.length ar) (by simp only; omega)).other ⟨w.heap.size + 1 + 1, 2, none⟩ (.slice aq ag.length ay) (by simp only; omega)).other ⟨w.heap.size + 1 + 1, 3, none⟩ (.slice au ai.length F) (by simp only; omega)).set 0 (.int .i64 0)); obtain ⟨p0, p1, p2, p3⟩ := O9.a4; have p4 := N9.at 0 rfl; have ad := (((((Upd.set (S := OutS (w.heap.size + 1 + 1)) (w := cf) (p := ⟨w.heap.size + 1 + 1, 0, none⟩) (Or.inl rfl) (.int .u64 n2)).trans (Upd.set (S := OutS (w.heap.size + 1 + 1)) (p := ⟨w.heap.size + 1 + 1, 1, none⟩) (Or.inl rfl) (.slice ax ah.length ar)) (fun _ h _ => h)).trans (Upd.set (S := OutS (w.heap.size + 1 + 1)) (p := ⟨w.heap.size + 1 + 1, 2, none⟩) (Or.inl rfl) (.slice aq ag.length ay)) (fun _ h _ => h)).trans (Upd.set (S := OutS (w.heap.size + 1 + 1)) (p := ⟨w.heap.size + 1 + 1, 3, none⟩) (Or.inl rfl) (.slice au ai.length F)) (fun _ h _ => h)).trans (Upd.set (S := OutS (w.heap.size + 1 + 1)) (p := ⟨w.heap.size + 1 + 1 + 1, 0, none⟩) (Or.inr rfl) (.int .i64 0)) (fun _ h _ => h)); refine leaves_cons (f := 28) (args := #[.pointer (some ⟨w.heap.size + 1 + 1, 0, none⟩), .pointer (some ⟨w.heap.size + 1 + 1 + 1, 0, none⟩)]) (by simp) (by simp [go_sem]) ?_; refine (au2 _ (w.heap.size + 1 + 1)).mono ?_; rintro r u' ct ⟨rfl, rfl, rfl⟩; simp only [Leaves, settle]; refine ⟨_, (by simp [results, Tryz.results12, go_sem, p0, p1, p2, p3, p4]; try rfl), (StT.mk n2 (.slice ax ah.length ar) (.slice aq ag.length ay) (.slice au ai.length F) ah ag ai), by rw [co.out]; rfl, cq.out, ((cp.out.ow).upd ad (fun k h => by unfold OutS at h; omega)).base (by omega), ?_⟩; exact bo.trans (Upd.below ad bo.size (fun k h => by unfold OutS at h; omega))
 ·rw [qk hz] at bf
  subst bf; have co := qq hz; obtain ⟨f, hf⟩ := qx ((s.ap N).2); rw [hf]; have cv := qq (show s.ap N = no f from bds hz hf); clear hz hf e0 e1 e2 e3 e4 e5 e6 e7 bw r1 r2 r3 r4 r5 r6 r7 r8 r9 b7 al cj; go_wp2; refine leaves_cons (f := 28) (args := #[.pointer (some ⟨w.heap.size + 1 + 1, 0, none⟩), .pointer (some ⟨w.heap.size + 1 + 1 + 1, 0, none⟩)]) (by simp) (by simp [go_sem]) ?_; refine (aky _ (w.heap.size + 1 + 1) f _ _ _ _ _ bi br).mono ?_; rintro r u' ct ⟨rfl, rfl, O9, N9, ad⟩; obtain ⟨p0, p1, p2, p3⟩ := O9.a4; have p4 := N9.at 0 rfl; simp only [Leaves, settle, List.dropWhile_nil]; refine ⟨_, (by simp [results, Tryz.results12, go_sem, p0, p1, p2, p3, p4]; try rfl), apr cv.out ?_⟩; exact bo.trans (Upd.below ad bo.size (fun k h => by unfold OutS at h; omega))
theorem afd (H : ayk) {k : Int} (G : ad3 k) (w : World) (t : StT) (e : EnT) (P : Nat → Prop) (J : StRd P w t) (U : EnRd P w e) (O : Tb w) (M : StSm t) {s F : St} {f : Int} (hs : t.s = s) (h : s.ap e.e = (F, f)) (K : e.kind = k := by rfl) :
 Calls prog 12 #[t.arg, e.arg] w fun r w' => ∃ A : StT, r = .returned (.tuple #[A.arg, .int .i64 f]) ∧ A.s = F ∧ StOw w.heap.size w' A ∧ Below w.heap.size w w' := by
 refine (an7 H G w t e P J U O M K).mono ?_
 rintro r w' ⟨A, E, D, I, N⟩
 rw [hs, h] at E D
 exact ⟨A, E, D, I, N⟩
def bd0 : StT := ⟨1, .slice none 0 0, .slice none 0 0, .slice none 0 0, [], [], []⟩
theorem bab (B : Nat) (w : World) : StOw B w bd0 :=
 ⟨Own.nil, Own.nil, Own.nil, fun q A => (by cases A), fun q A => (by cases A), fun q A => (by cases A), List.Pairwise.nil, List.Pairwise.nil, fun q A => (by cases A), fun q A => (by cases A), ⟨⟨by show (0 : Int) ≤ 1; omega, by show (1 : Int) < _; omega⟩, fun q A => (by cases A), fun q A => (by cases A), fun q A => (by cases A), fun q A => (by cases A), fun q A => (by cases A), fun q A => (by cases A)⟩⟩
theorem an8 {P : Nat → Prop} (w : World) (k n : Int) (F : ByteArray) (x : Xn) (D : 0 ≤ k ∧ k < 256) (A : 0 ≤ n ∧ n < 18446744073709551616) (E : 0 ≤ x.1 ∧ x.1 < 4294967296) : EnRd P w ⟨k, F, n, x, .slice none 0 0, .slice none 0 0, [], []⟩ :=
 ⟨Own.nil.slc aae (base := 0) (e := 64), fun i e _ => jp e (by simp [Value.ownBlock]), fun y hy => (by cases hy), Own.nil.slc aa9 (base := 0) (e := 68), fun i e _ => jp e (by simp [Value.ownBlock]), ⟨D.1, D.2, A.1, A.2, E.1, E.2, fun p H => (by cases H), fun r G => (by cases G)⟩⟩
theorem bb8 {P : Nat → Prop} (w : World) (b : Nat) (p : PtT) (D : Blk w b (aat p)) (A : Rd (fun _ => True) w p.pr.app) (hi : 0 ≤ p.id ∧ p.id < 18446744073709551616) : EnRd (fun _ => True) w ⟨3, ⟨#[]⟩, 0, Xn.zero, .slice (some ⟨b, 0, none⟩) 1 1, .slice none 0 0, [p], []⟩ :=
 ⟨aik D, fun _ _ _ => trivial, fun y hy => by rw [jc.1 hy]; exact A, Own.nil.slc aa9 (base := 0) (e := 68), fun _ _ _ => trivial, ⟨by show (0 : Int) ≤ 3; omega, by show (3 : Int) < 256; omega, by show (0 : Int) ≤ 0; omega, by show (0 : Int) < _; omega, by show (0 : Int) ≤ 0; omega, by show (0 : Int) < _; omega, fun q E => by
  obtain ⟨y, hy, rfl⟩ := jv.1 E
  rw [jc.1 hy]; exact ⟨hi.1, hi.2, A.wf⟩, fun r A => (by cases A)⟩⟩
theorem bac (w : World) (b : Nat) (x : Xn) (r : Rf) (D : Blk w b (abc r)) (A : 0 ≤ x.1 ∧ x.1 < 4294967296) (hi : 0 ≤ r.id ∧ r.id < 18446744073709551616) : EnRd (fun _ => True) w ⟨4, ⟨#[]⟩, 0, x, .slice none 0 0, .slice (some ⟨b, 0, none⟩) 1 1, [], [r]⟩ :=
 ⟨Own.nil.slc aae (base := 0) (e := 64), fun _ _ _ => trivial, fun y hy => (by cases hy), aik D, fun _ _ _ => trivial, ⟨by show (0 : Int) ≤ 4; omega, by show (4 : Int) < 256; omega, by show (0 : Int) ≤ 0; omega, by show (0 : Int) < _; omega, A.1, A.2, fun q E => (by cases E), fun y hy => by rw [jc.1 hy]; exact hi⟩⟩
end Go.Proofs.YtgnaifhmcllnlaaGreatDoor
