/- The maker's heurCommit and heurBack. Conditions: sizes; a store that is right. Written by gen_stLh.py. (Texts joined.) -/
import Derived.Test.YtgnaifhmcllnlaaGreatDoorB10
set_option maxRecDepth 100000
set_option maxHeartbeats 12800000
set_option linter.unusedSimpArgs false
set_option linter.unusedVariables false
namespace Go.Proofs.YtgnaifhmcllnlaaGreatDoor
open Go.RowKit Tryz
theorem bdp : (prog.info? 62).map (fun i => (i.zero, i.size)) = some (some (.agg #[.int .u32 0, .string ⟨#[]⟩, .string ⟨#[]⟩, .slice none 0 0, .slice none 0 0]), 5) := by kernel_rfl
def Sto (m : Nat) (t : StT) (i : Nat) : Prop := i = m ∨ Mut t.mv i
theorem auv {nx H : Int} {qv bv D E : Value} {qs : List QuT} {zk : List BrT} {hs F : List He} {j : Nat} (I : ∀ k, D.ownBlock = some k → bv.ownBlock = some k) {i : Nat} (A : Mut (StT.mk H qv D E qs (zk.eraseIdx j) F).mv i) : Mut (StT.mk nx qv bv E qs zk hs).mv i := by
 unfold StT.mv at A ⊢
 simp only [aab, abd] at A ⊢
 rcases A with e | e | e | e | ⟨u, J, e⟩
 ·exact .inl e
 ·exact .inr (.inl (I i e))
 ·exact .inr (.inr (.inl e))
 ·exact .inr (.inr (.inr (.inl e)))
 ·obtain ⟨b, G, rfl⟩ := jv.1 J
  exact .inr (.inr (.inr (.inr ⟨_, jw ((List.eraseIdx_sublist zk j).subset G), e⟩)))
theorem MkS.stoB {B m : Nat} {D : Value} {w : World} {t : StT} (h : MkS B m D w t) {i : Nat} (A : Sto m t i) : B ≤ i := by
 rcases A with rfl | hM
 ·exact h.mB
 exact aj5
def bd9 (B m : Nat) (w w' : World) (r : Ending) (nx : Int) (qv bv hv : Value) (qs : List QuT) (zk : List BrT) (hs : List He) (i : Nat) (x : Xn) : Prop :=
 ∃ (yf : Int) (yg yb : ByteArray) (pa : Option Addr) (pc : Nat) (ta : Option Addr) (tc : Nat) (zu : List PtT) (zy : List Rf) (ra : Option Addr) (rn rc : Nat), zk[i]? = some (BrT.mk x (.slice pa zu.length pc) (.slice ta zy.length tc) zu zy) ∧ x = (yf, yg, yb) ∧ r = .returned (.agg #[.int .u32 yf, .string yg, .string yb, .slice pa zu.length pc, .slice ta zy.length tc]) ∧
  MkS B m (.slice pa zu.length pc) w' (StT.mk nx qv (.slice ra rn rc) hv qs (zk.eraseIdx i) hs) ∧ BrX B m w' (StT.mk nx qv (.slice ra rn rc) hv qs (zk.eraseIdx i) hs) (BrT.mk x (.slice pa zu.length pc) (.slice ta zy.length tc) zu zy) ∧ Upd (fun k => bv.ownBlock = some k ∨ k = m) w w' ∧ (∀ k, Value.ownBlock (.slice ra rn rc) = some k → bv.ownBlock = some k)
theorem alv (w : World) (B m : Nat) (nx : Int) (qa : Option Addr) (qc : Nat) (ba : Option Addr) (A : Nat) (ha : Option Addr) (hc : Nat) (qs : List QuT) (zk : List BrT) (hs : List He) (E : Int) (D F : ByteArray) (hM : MkS B m (.slice none 0 0) w (StT.mk nx (.slice qa qs.length qc) (.slice ba zk.length A) (.slice ha hs.length hc) qs zk hs)) (bj : B ≤ w.heap.size) (hr : RisK aav BrT.x zk) (hL : zk.length ≤ 1000000) :
 Calls prog 100 #[.pointer (some ⟨m, 0, none⟩), .agg #[.int .u32 E, .string D, .string F]] w fun r w' => if acv aav BrT.x zk (E, D, F) = true then bd9 B m w w' r nx (.slice qa qs.length qc) (.slice ba zk.length A) (.slice ha hs.length hc) qs zk hs (lbK aav BrT.x zk (E, D, F)) (E, D, F) else r = .panicked [{ v := .iface 41 (.int .i64 7), recovered := false }] ∧ Below w.heap.size w w' := by
 have zb := bdp
 have aa := ((qz w.heap.size w).alloc (qj _) (.cells #[.int .u32 E, .string D, .string F] 30)).alloc (by simp) (.cells #[.int .u32 0, .string ⟨#[]⟩, .string ⟨#[]⟩, .slice none 0 0, .slice none 0 0] 62)
 have E0 := (Blk.new w [.int .u32 E, .string D, .string F] 30).alloc (.cells #[.int .u32 0, .string ⟨#[]⟩, .string ⟨#[]⟩, .slice none 0 0, .slice none 0 0] 62)
 have R0 := Blk.newE (w.alloc (.cells #[.int .u32 E, .string D, .string F] 30)) [.int .u32 0, .string ⟨#[]⟩, .string ⟨#[]⟩, .slice none 0 0, .slice none 0 0] 62 (w.heap.size + 1) (by simp)
 have bq : m < w.heap.size := hM.a.blk.lt
 have ai := qq (fun (v : World) (h : Below w.heap.size w v) => atB v nx qa qs.length qc ba zk.length A ha hs.length hc zk E D F (hM.pure h).rd.b _ (hM.pure h).rd.e hr hL)
 obtain ⟨i, hi⟩ := qx (lbK aav BrT.x zk (E, D, F))
 obtain ⟨b, ad⟩ := qx (acv aav BrT.x zk (E, D, F))
 have aw := qq (show b = true → ∃ h : i < zk.length, zk[i].x = (E, D, F) from fun h => by subst hi; exact aec cmpX_ok hr (ad.trans h))
 have ai := qq (show ∀ v, Below w.heap.size w v → _ from fun v h => hi ▸ ad ▸ ai.out v h)
 rw [hi, ad]
 clear hi ad hr
 go_enter func100, ntmps100
 go_upto_region 1 with fail
 generalize (w.alloc (.cells #[.int .u32 E, .string D, .string F] 30)).alloc (.cells #[.int .u32 0, .string ⟨#[]⟩, .string ⟨#[]⟩, .slice none 0 0, .slice none 0 0] 62) = u at aa E0 R0 ⊢
 have an := aa
 have M0 := hM.pure aa
 have A0 : Blk u m [.int .u64 nx, .slice qa qs.length qc, .slice ba zk.length A, .slice ha hs.length hc] := M0.a.blk
 have H := aan (qz u.heap.size u)
 refine wp_region_held_drew (S := fun v => Below u.heap.size u v) (by kernel_rfl) H (fun G => ?_)
 refine tkH 0 G ?_
 refine tkH 1 G ?_
 refine tkH 2 G ?_
 refine tkF 3 G ?_ (fun v ah => (A0.pure ah).a4)
 refine tkF 4 G ?_ (fun v ah => (E0.pure ah).a3)
 refine aai 5 rfl (fun Kq ar => ?_)
 go_simp
 (go_at_call 52; (with_reducible refine (ai.out _ (an.trans (H.mono an.size))).mono ?_); rintro e I ⟨rfl, hB2⟩)
 have H : Below u.heap.size u I := H.trans (hB2.mono H.size)
 refine ar.out _ _ H (fun G => ?_)
 clear ar Kq
 (try simp only [Act.put, lsT, lsZ, lsS])
 refine tkH 6 G ?_
 refine tkH 7 G ?_
 refine tkH 8 G ?_
 refine tkH 9 G ?_
 refine tkH 10 G ?_
 refine wpAnyH_done (by kernel_rfl) ?_ _
 have hB2 := aa.trans (H.mono aa.size)
 have W := M0.pure H; have R2 := R0.pure H
 cases b
 ·exact ago
 obtain ⟨ab, av⟩ := aw.out rfl
 clear H G M0 aa A0 E0 R0
 have A2 : Blk I m [.int .u64 nx, .slice qa qs.length qc, .slice ba zk.length A, .slice ha hs.length hc] := W.a.blk
 obtain ⟨g, rfl, hg⟩ := abr W.b ab
 have bo : g < w.heap.size := hM.b.lt rfl
 obtain ⟨O, J, M, z, Y, X, Z, K, N, hx, bl, bk, c0, c1, c2, c3, c4⟩ := adq (W.b.slc aag) ab (W.rd.e zk[i] (qy ab))
 simp only [Nat.zero_add] at c0 c1 c2 c3 c4
 have bi : (0 : Int) ≤ (i : Int) := by omega
 have bm : (i : Int) + 1 ≤ 1000001 := by omega
 have bh : (i : Int) < (zk.length : Int) := by omega
 have am : g ≠ m := fun e => abm W.b W.a (by decide) (by rw [← e]; rfl)
 have a1 := qq hM; have ao := qq hx; have aj := qq av
 clear hx av
 have a2 := A2.at 2 rfl
 go_upto_region 4 with (go_at_call 89; (with_reducible refine (ab9 _ _).mono ?_); rintro e w3 ⟨rfl, rfl⟩)
 have ac := (qz I.heap.size I).alloc (qj _) (.cells #[.int .u32 O, .string J, .string M, .slice z K.length Y, .slice X N.length Z] 62)
 have N0 := Blk.new I [.int .u32 O, .string J, .string M, .slice z K.length Y, .slice X N.length Z] 62
 have bp : w.heap.size + 2 ≤ I.heap.size := R2.lt
 have M3 := W.pure ac; have R3 := R2.pure ac; have A3 := A2.pure ac
 have ak := hB2.trans (ac.mono hB2.size)
 generalize I.alloc (.cells #[.int .u32 O, .string J, .string M, .slice z K.length Y, .slice X N.length Z] 62) = x at N0 M3 R3 A3 ak ⊢
 clear c0 c1 c2 c3 c4 a2 ac
 have a2 := A3.at 2 rfl
 go_wp2_with (go_at_call 148; (with_reducible refine (akw x g A i zk M3.b ab hL).mono ?_); rintro e w5 ⟨rfl, ay, ae⟩; have A5 := M3.a.upd ae (fun e => am (show m = g from e).symm); have R5 := R3.upd ae (fun e => by have e : w.heap.size + 1 = g := e; omega); have N5 := N0.upd ae (fun e => by have e : I.heap.size = g := e; omega); have a2 := A5.blk.at 2 rfl; have af := A5.blk.frozen 2; obtain ⟨n0, n1, n2, n3, n4⟩ := N5.a5; obtain ⟨r0, r1, r2, r3, r4⟩ := R5.a5; obtain ⟨f0, f1, f2, f3, f4⟩ := R5.f5; have bn : I.heap.size ≠ m := fun e => by omega)
 have bg := (((((R5.other ⟨m, 2, none⟩ (.slice (some ⟨g, 0, none⟩) (zk.length - 1) A) (by simp only; omega)).set 0 (.int .u32 O)).set 1 (.string J)).set 2 (.string M)).set 3 (.slice z K.length Y)).set 4 (.slice X N.length Z)
 obtain ⟨k0, k1, k2, k3, k4⟩ := bg.a5
 have ag := (aba (S := fun k => k = w.heap.size + 1) (aba (S := fun k => k = w.heap.size + 1) (aba (S := fun k => k = w.heap.size + 1) (aba (S := fun k => k = w.heap.size + 1) (aba (S := fun k => k = w.heap.size + 1) (Upd.refl (fun k => k = w.heap.size + 1) (w5.setCell ⟨m, 2, none⟩ (.slice (some ⟨g, 0, none⟩) (zk.length - 1) A))) (w.heap.size + 1) 0 (.int .u32 O) rfl) (w.heap.size + 1) 1 (.string J) rfl) (w.heap.size + 1) 2 (.string M) rfl) (w.heap.size + 1) 3 (.slice z K.length Y) rfl) (w.heap.size + 1) 4 (.slice X N.length Z) rfl)
 refine bodyPost_ret (by simp [results, Tryz.results100, go_sem, k0, k1, k2, k3, k4]; rfl) rfl ?_
 have bd : Upd (fun k => k = m) w5 (w5.setCell ⟨m, 2, none⟩ (.slice (some ⟨g, 0, none⟩) (zk.length - 1) A)) := Upd.set (S := fun k => k = m) rfl _
 have bf := ((Upd.of_below (S := fun k => k = g ∨ k = m) ak).trans (ae.mono (T := fun k => k = g ∨ k = m) (fun k e _ => .inl e)) (fun k e _ => e)).trans (bd.mono (T := fun k => k = g ∨ k = m) (fun k e _ => .inr e)) (fun k e _ => e)
 have aq := (bf.trans ag (fun k e hk => by have e : k = w.heap.size + 1 := e; omega)).mono (T := fun k => Value.ownBlock (.slice (some ⟨g, 0, none⟩) zk.length A) = some k ∨ k = m) (fun k e _ => by
  rcases e with e | e
  ·exact .inl (by rw [e]; rfl)
  ·exact .inr e)
 have al : ∀ k, Value.ownBlock (.slice (some ⟨g, 0, none⟩) (zk.length - 1) A) = some k → g = k := fun k e => by simpa [Value.ownBlock] using e
 have a0 : Own B 62 5 aa7 (w5.setCell ⟨m, 2, none⟩ (.slice (some ⟨g, 0, none⟩) (zk.length - 1) A)) (.slice (some ⟨g, 0, none⟩) (zk.length - 1) A) (zk.eraseIdx i) := ay.other _ _ (fun k hk e => am ((al k hk).trans e))
 have az := a0.upd ag (fun k hk e => by have h1 := al k hk; have e : k = w.heap.size + 1 := e; omega)
 have bb := (A5.set 2 (.slice (some ⟨g, 0, none⟩) (zk.length - 1) A)).upd ag (fun e => by have e : m = w.heap.size + 1 := e; omega)
 have hd := a1.out.delB ab az bb aq (fun k e => e)
 have au : zk[i] = BrT.mk (E, D, F) (.slice z K.length Y) (.slice X N.length Z) K N := by
  have h1 := ao.out; have U := aj.out; rw [h1] at U; rw [h1]; have U : (O, J, M) = (E, D, F) := U; rw [U]
 have ax : (E, D, F) = (O, J, M) := by
  have h1 := ao.out; have U := aj.out; rw [h1] at U; exact U.symm
 rw [au] at hd
 exact ⟨O, J, M, z, Y, X, Z, K, N, some ⟨g, 0, none⟩, zk.length - 1, A, by rw [List.getElem?_eq_getElem ab, au], ax, rfl, hd.1, hd.2, aq, fun k e => e⟩
theorem an2 {s : Rf} : ∀ {l : List Rf} {qs : List Qu}, hasM qs s = true → hasM (l.foldl ao1 qs) s = true
 | [], _, h => h
 | r :: l, qs, h => an2 (l := l) (axf h)
theorem axs {nx : Int} {qv bv D : Value} {qs : List QuT} {zk : List BrT} {hs : List He} {m1 m2 : Nat} {i : Nat} (A : Mut (StT.mk nx qv bv D (aeu qs m1 m2) zk hs).mv i) : Mut (StT.mk nx qv bv D qs zk hs).mv i := by
 have e : (aeu qs m1 m2).map QuT.mv = qs.map QuT.mv := by
  unfold aeu; split
  ·rename_i h1
   split
   ·exact adk h1 rfl
   ·rfl
  ·rfl
 unfold StT.mv at A ⊢
 dsimp only at A ⊢
 rwa [e] at A
theorem axt (J : Int) (F I : ByteArray) (H : Option Addr) (G K : Nat) (E : Option Addr) (A D : Nat) (w : World) : (Instr.field 62 (.agg #[.int .u32 J, .string F, .string I, .slice H G K, .slice E A D]) 2).run prog w = .ok (.slice E A D) w := by kernel_rfl
def bea (B m : Nat) (S : Nat → Prop) (w w' : World) (r : Ending) (nx : Int) (qs : List QuT) (zk : List BrT) (hs : List He) (i : Nat) : Prop :=
 ∃ (b : BrT) (t' : StT), zk[i]? = some b ∧ r = .returned (.tuple #[]) ∧ MkS B m (.slice none 0 0) w' t' ∧ t'.next = nx ∧ t'.qs.map QuT.q = b.zy.foldl ao1 (qs.map QuT.q) ∧ t'.zk = zk.eraseIdx i ∧ t'.hs = hs ∧ Upd S w w'
theorem auw (w : World) (B m : Nat) (nx : Int) (H : Option Addr) (qc : Nat) (ba : Option Addr) (bc : Nat) (F : Option Addr) (G : Nat) (qs : List QuT) (zk : List BrT) (hs : List He) (ek : Int) (en : ByteArray) (ei : Int) (I : Int) (K M : ByteArray) (Z : Option Addr) (pn Y : Nat) (O : Option Addr) (tn U : Nat) (hM : MkS B m (.slice none 0 0) w (StT.mk nx (.slice H qs.length qc) (.slice ba zk.length bc) (.slice F hs.length G) qs zk hs)) (b4 : B ≤ w.heap.size) (hr : RisK aav BrT.x zk) (bd : QsOk qs) (hL : zk.length ≤ 1000000) (hT : ∀ b ∈ zk, ∀ r ∈ b.zy, hasM (qs.map QuT.q) r = true) (bf : ∀ b ∈ zk, b.zy.length ≤ 1000000) :
 Calls prog 35 #[.pointer (some ⟨m, 0, none⟩), .agg #[.int .u8 ek, .string en, .int .u64 ei, .int .u32 I, .string K, .string M, .slice Z pn Y, .slice O tn U]] w fun r w' => if acv aav BrT.x zk (I, K, M) = true then bea B m (Sto m (StT.mk nx (.slice H qs.length qc) (.slice ba zk.length bc) (.slice F hs.length G) qs zk hs)) w w' r nx qs zk hs (lbK aav BrT.x zk (I, K, M)) else r = .panicked [{ v := .iface 41 (.int .i64 7), recovered := false }] ∧ Below w.heap.size w w' := by
 have ad := (qz w.heap.size w).alloc (qj _) (.cells #[.int .u8 ek, .string en, .int .u64 ei, .int .u32 I, .string K, .string M, .slice Z pn Y, .slice O tn U] 34)
 have E0 := Blk.new w [.int .u8 ek, .string en, .int .u64 ei, .int .u32 I, .string K, .string M, .slice Z pn Y, .slice O tn U] 34
 have h := alv (w.alloc (.cells #[.int .u8 ek, .string en, .int .u64 ei, .int .u32 I, .string K, .string M, .slice Z pn Y, .slice O tn U] 34)) B m nx H qc ba bc F G qs zk hs I K M (hM.pure ad) (jk b4 ad.size) hr hL
 obtain ⟨i, hi⟩ := qx (lbK aav BrT.x zk (I, K, M))
 obtain ⟨b, bg⟩ := qx (acv aav BrT.x zk (I, K, M))
 rw [hi, bg] at h ⊢
 obtain ⟨S0, ax⟩ := zj (Sto m (StT.mk nx (.slice H qs.length qc) (.slice ba zk.length bc) (.slice F hs.length G) qs zk hs))
 rw [← ax]
 have a0 := qq ax
 clear ax
 clear hi bg hr hM
 have bq := qq bd; have b7 := qq hT; have bu := qq bf
 clear bd hT bf
 have e3 := E0.at 3 rfl; have e4 := E0.at 4 rfl; have e5 := E0.at 5 rfl
 cases b
 ·simp only [Bool.false_eq_true, if_false] at h
  have ag := qq h; clear h; go_enter func35, ntmps35; go_wp2_with (go_at_call 100; (with_reducible refine ag.out.mono ?_); rintro e w2 ⟨rfl, aj⟩; have hF := ad.trans (aj.mono ad.size)); exact ⟨rfl, rfl, hF⟩
 simp only [if_true] at h
 have ag := qq h
 clear h
 go_enter func35, ntmps35
 go_wp2_with (go_at_call 100; (with_reducible refine ag.out.mono ?_); rintro e w2 ⟨yf, yg, yb, Z, Y, O, U, zu, A, ra, rn, rc, ae, bi, rfl, aq, ar, av, ay⟩; have ay := qq ay; have bi := qq bi; have ae := qq ae; have ar := qq ar; have aq := qq aq; have av := qq (av.mono (T := S0) (fun k e _ => by rw [a0.out]; rcases e with e | e; exact .inr (aab.2 (.inr (aab.2 (.inl e)))); exact .inl e)); have b8 := fun (v : World) => axt yf yg yb Z zu.length Y O A.length U v)
 clear e3 e4 e5 ag E0 b8
 have au : i < zk.length := by
  rcases Nat.lt_or_ge i zk.length with af | af
  ·exact af
  ·have := ae.out; rw [List.getElem?_eq_none af] at this; cases this
 have bo := qq (show zk[i] = BrT.mk (I, K, M) (.slice Z zu.length Y) (.slice O A.length U) zu A from by have := ae.out; rw [List.getElem?_eq_getElem au] at this; exact Option.some.inj this)
 have b6 := qq (show ∀ r ∈ A, hasM (qs.map QuT.q) r = true from fun r hr => b7.out _ (qy au) r (by rw [bo.out]; exact hr))
 have cd : A.length ≤ 1000000 := by have := bu.out _ (qy au); rw [bo.out] at this; exact this
 have cg : (A.length : Int) ≤ 1000000 := by omega
 go_loopw [5, 6, 7, 8, 15] (fun s5 s6 s7 s8 aw wr => ∃ (k : Nat) (Q : List QuT), k ≤ A.length ∧ aw = .int .i64 k ∧ MkS B m (.slice Z zu.length Y) wr (StT.mk nx (.slice H qs.length qc) (.slice ra rn rc) (.slice F hs.length G) Q (zk.eraseIdx i) hs) ∧ Hid (Q.map QuT.q = (A.take k).foldl ao1 (qs.map QuT.q)) ∧ Hid (QsOk Q) ∧ Q.length = qs.length ∧ Own B 68 2 abc wr (.slice O A.length U) A ∧ Hid (∀ j, Mut (StT.mk nx (.slice H qs.length qc) (.slice ra rn rc) (.slice F hs.length G) Q (zk.eraseIdx i) hs).mv j → S0 j) ∧ Upd S0 w2 wr) (fun s5 s6 s7 s8 aw _ => A.length - (intOf aw).toNat)
 case atStart => exact ⟨0, qs, Nat.zero_le _, rfl, aq.out, qq rfl, bq, rfl, ar.out.tk, qq (fun j hM => by rw [a0.out]; exact .inr (auv ay.out hM)), Upd.refl _ _⟩
 case round =>
  obtain ⟨k, Q, hk, rfl, an, hQ, aa, bh, am, bk, hU⟩ := hrel; have ac := qq bh; clear bh; by_cases ah : k < A.length
  ·have ca : (k : Int) < (A.length : Int) := by omega
   obtain ⟨g, rfl, hg⟩ := abr am ah; obtain ⟨q, id, hx, c0, c1⟩ := ado (am.slc aa9) ah; simp only [Nat.zero_add] at c0 c1; obtain ⟨mp, al⟩ := qx (aqg Q ⟨q, id⟩); obtain ⟨m1, m2, mh⟩ := mp
   have b2 : mh = true := by
    have E := aqn (qs := Q) (r := ⟨q, id⟩) aa.out (by rw [hQ.out]; exact an2 (b6.out _ (by rw [← hx]; exact qy ah))); rw [al] at E; exact E
   subst b2; obtain ⟨E, X, hn, bm⟩ := aun aa.out al; have ak := fun (v : World) (af : Below wr.heap.size wr v) => ag6 v nx H qc ra rn rc F hs.length G Q _ q id (by rw [ac.out]; exact (an.pure af).rd.qs) aa.out
   rw [al, ac.out] at ak; dsimp only at ak; have bw := qq ak; have b1 := qq hx; have bj := qq hn; have bb := qq bm; clear ak hx al hn bm; go_upto_region 4 with fail; have ab := (qz wr.heap.size wr).alloc (qj _) (.cells #[.string q, .int .u64 id] 68); have E1 := Blk.new wr [.string q, .int .u64 id] 68; generalize wr.heap.size = nb at E1 ⊢; generalize wr.alloc (.cells #[.string q, .int .u64 id] 68) = u at E1 ab ⊢; clear c0 c1; have A0 : Blk u m [.int .u64 nx, .slice H qs.length qc, .slice ra rn rc, .slice F hs.length G] := (an.pure ab).a.blk; have W := aan (qz u.heap.size u); refine wp_region_held_drew (S := fun v => Below u.heap.size u v) (by kernel_rfl) W (fun D => ?_); refine tkH 0 D ?_; refine tkH 1 D ?_; refine tkH 2 D ?_; refine tkF 3 D ?_ (fun v az => (A0.pure az).a4); refine tkF 4 D ?_ (fun v az => (E1.pure az).a2); refine aai 5 rfl (fun Kq bl => ?_); go_simp
   (go_at_call 101; (with_reducible refine (bw.out _ (ab.trans (W.mono ab.size))).mono ?_); rintro e w3 ⟨rfl, aj⟩)
   have W : Below u.heap.size u w3 := W.trans (aj.mono W.size); refine bl.out _ _ W (fun D => ?_); clear bl Kq; (try simp only [Act.put, lsT, lsZ, lsS]); refine tkH 6 D ?_; refine tkH 7 D ?_; refine tkH 8 D ?_; refine tkH 9 D ?_; refine tkH 10 D ?_; refine tkH 11 D ?_; refine tkH 12 D ?_; refine wpAnyH_done (by kernel_rfl) ?_ _; have ai := ab.trans (W.mono ab.size); have M3 := an.pure ai; have A3 : Blk w3 m [.int .u64 nx, .slice H qs.length qc, .slice ra rn rc, .slice F hs.length G] := M3.a.blk; have ch : m1 < Q.length := E; obtain ⟨gq, rfl, ce⟩ := abr M3.q E; have z := M3.mm _ (qy E); obtain ⟨ma, mc, N, -⟩ : ∃ a c, Q[m1].mv = .slice a Q[m1].zw.length c ∧ Q[m1].zw.length ≤ maxLen := (z.slc aac).len
   obtain ⟨J, b5, -⟩ := abr (N ▸ z) X; subst b5; have cl : m1 < qs.length := by rw [← ac.out]; exact E
   have cj : (m1 : Int) < (qs.length : Int) := by omega
   have ck : Q[m1].zw.length ≤ 1000000 := aa.out.lm _ (qy E); obtain ⟨ml, ao⟩ := zj (Q[m1].zw.length); have ci : (m2 : Int) < (ml : Int) := by rw [ao]; exact Int.ofNat_lt.2 X
   have cb : (0 : Int) ≤ (m2 : Int) := by omega
   have cc : (0 : Int) ≤ (m1 : Int) := by omega
   have d2 : w3.cell? ⟨gq, m1 * 3 + 2, none⟩ = some (.slice (some ⟨J, 0, none⟩) ml mc) := M3.q.cell aaf m1 E 2 _ (by show some (one Q[m1].mv) = _; rw [N, ao]; rfl); have g3 : w3.cell? ⟨J, m2 * 11 + 1 + 2, none⟩ = some (.bool Q[m1].zw[m2].pr.red) := Own.cell aac (N ▸ z) m2 X 3 _ rfl; obtain ⟨rd, bn⟩ := qx (Q[m1].zw[m2].pr.red); rw [bn] at g3; have f3 : w3.frozen? ⟨J, m2 * 11 + 1 + 2, none⟩ = false := Own.frozen (N ▸ z) (m2 * 11 + 3); have a1 := A3.at 1 rfl; have M4 := M3.mark E N X; rw [show Q.set m1 _ = aeu Q m1 m2 from (ag7 E X).symm] at M4; have bp := qq (az3 (r := ⟨q, id⟩) aa.out E X bj.out bb.out); have bx := qq (aa.out.marked E X); have cf : B ≤ J := z.ge (by rw [N]; rfl); have O4 := (am.pure ai).upd (Upd.set (S := fun k => k = J) (p := ⟨J, m2 * 11 + 1 + 2, none⟩) rfl (.bool true)) (fun k hk e => aaz (am.pure ai) z (by decide) hk (by rw [N, show k = J from e]; rfl)); have b0 := (hU.trans (Upd.of_below (S := S0) ai) (fun _ e _ => e)).trans (Upd.set (S := fun k => k = J) (p := ⟨J, m2 * 11 + 1 + 2, none⟩) rfl (.bool true)) (fun k e _ => bk.out k (by rw [show k = J from e]; unfold StT.mv; simp only [aab, abd]; exact .inr (.inr (.inr (.inl ⟨_, jw (qy E), by rw [N]; rfl⟩))))); have br := qq (fun j (hM : Mut (StT.mk nx (.slice (some ⟨gq, 0, none⟩) qs.length qc) (.slice ra rn rc) (.slice F hs.length G) (aeu Q m1 m2) (zk.eraseIdx i) hs).mv j) => bk.out j (axs hM))
   have b3 := qq (show (aeu Q m1 m2).map QuT.q = (A.take (k + 1)).foldl ao1 (qs.map QuT.q) by
    rw [jx ah, List.foldl_append, ← hQ.out, b1.out]
    exact bp.out.symm)
   have bt : (aeu Q m1 m2).length = qs.length := (ant _ _ _).trans ac.out; have b9 := qq M4; clear W D aj M4 bb bj bn z N ao bt X; go_wp2; go_roundw
   case rel => exact ⟨k + 1, aeu Q m1 m2, by omega, by go_num, b9.out, b3, bx, (ant _ _ _).trans ac.out, O4, br, b0⟩
   case measure => simp [intOf]; omega
  ·obtain rfl : k = A.length := by omega
   rw [js] at hQ; go_wp2; go_end0; exact ⟨_, (StT.mk nx (.slice H qs.length qc) (.slice ra rn rc) (.slice F hs.length G) Q (zk.eraseIdx i) hs), ae.out, rfl, an.noEx, rfl, hQ.out, rfl, rfl, (((Upd.of_below ad).trans av.out (fun _ e _ => e)).trans hU (fun _ e _ => e))⟩
def ag9 (B m : Nat) (w : World) (q : St × Int) (r : Ending) (w' : World) : Prop :=
 (if q.2 = 0 then r = .returned (.tuple #[]) ∧ ∃ t' : StT, t'.s = q.1 ∧ MkS B m (.slice none 0 0) w' t' else r = .panicked [{ v := .iface 41 (.int .i64 q.2), recovered := false }]) ∧ Upd (fun i => B ≤ i) w w'
def ApF (S : Nat → Prop) (B m : Nat) (w : World) (q : St × Int) (r : Ending) (w' : World) : Prop :=
 (if q.2 = 0 then r = .returned (.tuple #[]) ∧ ∃ t' : StT, t'.s = q.1 ∧ MkS B m (.slice none 0 0) w' t' else r = .panicked [{ v := .iface 41 (.int .i64 q.2), recovered := false }]) ∧ Upd S w w'
theorem ApF.ap {B m : Nat} {E : Value} {w0 w A : World} {t : StT} {q : St × Int} {r : Ending} (D : MkS B m E w0 t) (h : ApF (Sto m t) B m w q r A) : ag9 B m w q r A := ⟨h.1, h.2.mono (fun i e _ => D.stoB e)⟩
theorem aqs {S : Nat → Prop} {B m : Nat} {w A : World} {f : Int} (D : f ≠ 0) (E : Upd S w A) : ApF S B m w (no f) (.panicked [{ v := .iface 41 (.int .i64 f), recovered := false }]) A :=
 ⟨by rw [qk (show ¬ (no f).2 = 0 from D)]; rfl, E⟩
theorem aym {S : Nat → Prop} {B m : Nat} {w D : World} {s : St} {A : StT} (hs : A.s = s) (E : MkS B m (.slice none 0 0) D A) (F : Upd S w D) : ApF S B m w (s, 0) (.returned (.tuple #[])) D :=
 ⟨by rw [qw rfl]; exact ⟨rfl, A, hs, E⟩, F⟩
theorem adt {B m : Nat} {w A : World} {f : Int} (E : f ≠ 0) (D : Below w.heap.size w A) : ag9 B m w (no f) (.panicked [{ v := .iface 41 (.int .i64 f), recovered := false }]) A :=
 ⟨by rw [qk (show ¬ (no f).2 = 0 from E)]; rfl, Upd.of_below D⟩
theorem aip {B m : Nat} {w D : World} {s : St} {A : StT} (hs : A.s = s) (E : MkS B m (.slice none 0 0) D A) (F : Upd (fun i => B ≤ i) w D) : ag9 B m w (s, 0) (.returned (.tuple #[])) D :=
 ⟨by rw [qw rfl]; exact ⟨rfl, A, hs, E⟩, F⟩
theorem aux (w : World) (B m : Nat) (nx : Int) (F : Option Addr) (qc : Nat) (H : Option Addr) (D : Nat) (E : Option Addr) (G : Nat) (qs : List QuT) (zk : List BrT) (hs : List He) (O : Int) (en : ByteArray) (A : Int) (J : Int) (I Y : ByteArray) (U : Option Addr) (N M : Nat) (K : Option Addr) (X W : Nat) (e : En) (hM : MkS B m (.slice none 0 0) w (StT.mk nx (.slice F qs.length qc) (.slice H zk.length D) (.slice E hs.length G) qs zk hs)) (ab : B ≤ w.heap.size) (he : e.name = en) (hi : e.n = A) (aa : qsB nx (qs.map QuT.q) = true) (hL : qs.length ≤ 1000000) (hn : 0 ≤ A ∧ A < 18446744073709551616) :
 Calls prog 30 #[.pointer (some ⟨m, 0, none⟩), .agg #[.int .u8 O, .string en, .int .u64 A, .int .u32 J, .string I, .string Y, .slice U N M, .slice K X W]] w (ag9 B m w ((StT.mk nx (.slice F qs.length qc) (.slice H zk.length D) (.slice E hs.length G) qs zk hs).s.queue e)) := by
 refine (arw w B m (.slice none 0 0) nx F qc H D E G qs zk hs O en A J I Y U N M K X W hM ab (awq aa) hL hn).mono ?_
 intro r w' h
 have hs : (StT.mk nx (.slice F qs.length qc) (.slice H zk.length D) (.slice E hs.length G) qs zk hs).s.queue e = if acv abf QuT.name qs en = true then no 8 else ({ (StT.mk nx (.slice F qs.length qc) (.slice H zk.length D) (.slice E hs.length G) qs zk hs).s with qs := abj (qs.map QuT.q) (lbK abf Qu.name (qs.map QuT.q) en) ⟨en, A, []⟩ }, 0) := by
  unfold St.queue; rw [he, hi, anm]; rfl
 rw [hs]
 by_cases Z : acv abf QuT.name qs en = true
 ·rw [qw Z] at h ⊢
  obtain ⟨rfl, hB⟩ := h; exact adt (by decide) hB
 ·rw [qk Z] at h ⊢
  obtain ⟨rfl, ⟨ra, rn, rc, z⟩, hU⟩ := h; refine aip ?_ z hU; unfold StT.s; dsimp only; rw [ann, atz]; rfl
theorem axu (w : World) (B m : Nat) (nx : Int) (F : Option Addr) (qc : Nat) (G : Option Addr) (D : Nat) (E : Option Addr) (A : Nat) (qs : List QuT) (zk : List BrT) (hs : List He) (W : Int) (en : ByteArray) (Z : Int) (M : Int) (K xb : ByteArray) (X : Option Addr) (U O : Nat) (N : Option Addr) (z Y : Nat) (e : En) (hM : MkS B m (.slice none 0 0) w (StT.mk nx (.slice F qs.length qc) (.slice G zk.length D) (.slice E hs.length A) qs zk hs)) (ab : B ≤ w.heap.size) (he : e.name = en) (H : qsB nx (qs.map QuT.q) = true) (hL : qs.length ≤ 1000000) (ac : zk.length ≤ 1000000) :
 Calls prog 31 #[.pointer (some ⟨m, 0, none⟩), .agg #[.int .u8 W, .string en, .int .u64 Z, .int .u32 M, .string K, .string xb, .slice X U O, .slice N z Y]] w (ag9 B m w ((StT.mk nx (.slice F qs.length qc) (.slice G zk.length D) (.slice E hs.length A) qs zk hs).s.drop e)) := by
 refine (auu w B m (.slice none 0 0) nx F qc G D E A qs zk hs W en Z M K xb X U O N z Y hM ab (awq H) hL ac).mono ?_
 intro r w' h
 have hu : (StT.mk nx (.slice F qs.length qc) (.slice G zk.length D) (.slice E hs.length A) qs zk hs).s.uses en = zk.any (anz en) := by
  show (zk.map BrT.b).any _ = _
  rw [List.any_map]; congr 1; funext b; show ((b.zu.map PtT.p).any _ || _) = _
  rw [List.any_map]; rfl
 have ad : (StT.mk nx (.slice F qs.length qc) (.slice G zk.length D) (.slice E hs.length A) qs zk hs).s.drop e = if acv abf QuT.name qs en = true then (if zk.any (anz en) = true then no 9 else ({ (StT.mk nx (.slice F qs.length qc) (.slice G zk.length D) (.slice E hs.length A) qs zk hs).s with qs := (qs.map QuT.q).filter (fun q => decide (q.name ≠ en)) }, 0)) else no 7 := by
  unfold St.drop; rw [he, hu]; show (if ad0 (qs.map QuT.q) en = false then _ else _) = _
  rw [← anm]; cases acv abf QuT.name qs en <;> rfl
 rw [ad]
 by_cases J : acv abf QuT.name qs en = true
 ·rw [qw J] at h ⊢
  by_cases A : zk.any (anz en) = true
  ·rw [qw A] at h ⊢
   obtain ⟨rfl, I⟩ := h; exact adt (by decide) I
  ·rw [qk A] at h ⊢
   obtain ⟨rfl, ⟨ra, rn, rc, aa⟩, hU⟩ := h; obtain ⟨hl, hx⟩ := aec cmpB_ok (awq H) J; refine aip ?_ aa hU; unfold StT.s; dsimp only; rw [at0, ← ajp cmpB_ok (ad6 (c := abf) (k := Qu.name) (g := QuT.q) |>.2 (awq H)) (by simpa using hl) (x := en) (by rw [zq]; exact hx)]
 ·rw [qk J] at h ⊢
  obtain ⟨rfl, I⟩ := h; exact adt (by decide) I
theorem aqt {zk : List BrT} {x : Xn} (E : RisK aav BrT.x zk) {i : Nat} (hi : i < zk.length) (A : zk[i].x = x) : (zk.map BrT.b).find? (fun b => decide (b.x = x)) = some zk[i].b := by
 rw [List.find?_eq_some_iff_getElem]
 refine ⟨qp A, i, by simpa using hi, by simp, fun j F => ?_⟩
 rw [zq]
 have D : zk[j].x ≠ x := by rw [← A]; exact aln cmpX_ok E (by omega) hi (by omega)
 show (!decide (zk[j].x = x)) = true
 rw [qg D]; rfl
theorem auy {zk : List BrT} {x : Xn} (h : ¬ acv aav BrT.x zk x = true) : (zk.map BrT.b).find? (fun b => decide (b.x = x)) = none := by
 rw [List.find?_eq_none]
 intro b D e
 obtain ⟨t, A, rfl⟩ := jv.1 D
 exact h ((adr cmpX_ok).2 ⟨t, A, qt e⟩)
theorem alw {zk : List BrT} {x : Xn} (A : RisK aav BrT.x zk) {i : Nat} (hi : i < zk.length) (D : zk[i].x = x) : (zk.map BrT.b).filter (fun b => decide (b.x ≠ x)) = (zk.eraseIdx i).map BrT.b := by
 rw [at0, ← ajp cmpX_ok (ad6 (c := aav) (k := Br.x) (g := BrT.b) |>.2 A) (by simpa using hi) (x := x) (by rw [zq]; exact D)]
theorem axv (w : World) (B m : Nat) (nx : Int) (E : Option Addr) (qc : Nat) (G : Option Addr) (A : Nat) (D : Option Addr) (F : Nat) (qs : List QuT) (zk : List BrT) (hs : List He) (z : Int) (en : ByteArray) (ei : Int) (I : Int) (H J : ByteArray) (pa : Option Addr) (Z Y : Nat) (X : Option Addr) (tn tc : Nat) (e : En) (hM : MkS B m (.slice none 0 0) w (StT.mk nx (.slice E qs.length qc) (.slice G zk.length A) (.slice D hs.length F) qs zk hs)) (ac : B ≤ w.heap.size) (he : e.x = (I, H, J)) (K : RisK aav BrT.x zk) (ab : QsOk qs) (hL : zk.length ≤ 1000000) (hT : ∀ b ∈ zk, ∀ r ∈ b.zy, hasM (qs.map QuT.q) r = true) (ad : ∀ b ∈ zk, b.zy.length ≤ 1000000) :
 Calls prog 35 #[.pointer (some ⟨m, 0, none⟩), .agg #[.int .u8 z, .string en, .int .u64 ei, .int .u32 I, .string H, .string J, .slice pa Z Y, .slice X tn tc]] w (ApF (Sto m (StT.mk nx (.slice E qs.length qc) (.slice G zk.length A) (.slice D hs.length F) qs zk hs)) B m w ((StT.mk nx (.slice E qs.length qc) (.slice G zk.length A) (.slice D hs.length F) qs zk hs).s.back e)) := by
 refine (auw w B m nx E qc G A D F qs zk hs z en ei I H J pa Z Y X tn tc hM ac K ab hL hT ad).mono ?_
 intro r w' h
 by_cases M : acv aav BrT.x zk (I, H, J) = true
 ·rw [qw M] at h
  obtain ⟨b, t', U, rfl, aa, hn, hq, ae, hh, hU⟩ := h; obtain ⟨O, W⟩ := aec cmpX_ok K M; rw [List.getElem?_eq_getElem O] at U; obtain rfl := Option.some.inj U
  have N : (StT.mk nx (.slice E qs.length qc) (.slice G zk.length A) (.slice D hs.length F) qs zk hs).s.back e = ({ (StT.mk nx (.slice E qs.length qc) (.slice G zk.length A) (.slice D hs.length F) qs zk hs).s.without (I, H, J) with qs := zk[lbK aav BrT.x zk (I, H, J)].zy.foldl ao1 (qs.map QuT.q) }, 0) := by
   unfold St.back; rw [he]; show (match (zk.map BrT.b).find? _ with | none => _ | some b => _) = _
   rw [aqt K O W]; rfl
  rw [N]; refine aym ?_ aa hU; unfold StT.s St.without; dsimp only; rw [hn, hq, ae, hh, alw K O W]
 ·rw [qk M] at h
  obtain ⟨rfl, hB⟩ := h
  have N : (StT.mk nx (.slice E qs.length qc) (.slice G zk.length A) (.slice D hs.length F) qs zk hs).s.back e = no 7 := by
   unfold St.back; rw [he]; show (match (zk.map BrT.b).find? _ with | none => _ | some b => _) = _
   rw [auy M]
  rw [N]; exact aqs (by decide) (Upd.of_below hB)
theorem akd {base : Nat} (w : World) (g D i j : Nat) (U : j = i + 1) (L : List MsT) (h : Own base 60 11 abl w (.slice (some ⟨g, 0, none⟩) L.length D) L) (hi : i < L.length) (hL : L.length ≤ 1000000) :
 Calls prog 143 #[.slice (some ⟨g, 0, none⟩) L.length D, .int .i64 i, .int .i64 j] w fun e Y =>
  e = .returned (.slice (some ⟨g, 0, none⟩) (L.length - 1) D) ∧ Own base 60 11 abl Y (.slice (some ⟨g, 0, none⟩) (L.length - 1) D) (L.eraseIdx i) ∧ Upd (· = g) w Y := by
 have mixed : prog.follows .mixedOrders = true := by kernel_rfl
 obtain ⟨i0, ad, am, ac, ag⟩ := info_parts aqm
 have aa : L.length ≤ D ∧ D ≤ 9223372036854775807 := by
  exact aew
 have H : ∀ t u, (L.flatMap abl)[t]? = some u → w.cell? ⟨g, 0 + t, none⟩ = some u := fun t u hu => by
  exact agn
 have X : ∀ t, w.frozen? ⟨g, t, none⟩ = false := fun t => h.frozen t
 obtain ⟨news, E⟩ := zj ((L.drop j).flatMap abl)
 have hlen : news.length = (L.length - j) * 11 := by rw [E, abp aac]; simp
 have O : ∀ t, news[t]? = (L.flatMap abl)[j * 11 + t]? := fun t => by rw [E, aee aac, List.getElem?_drop]
 obtain ⟨A, hA, ab⟩ : ∃ A : Addr, (if D = j then some (⟨g, 0, none⟩ : Addr) else some ⟨g, j * 11, none⟩) = some A ∧ Hid (∀ t u, news[t]? = some u → w.drew.cell? (A.add t) = some u) := by
  by_cases hc : D = j
  ·exact agm
  ·refine ⟨⟨g, j * 11, none⟩, by simp [hc], qq (fun t u hu => ?_)⟩
   rw [O t] at hu; have := H _ _ hu; have e : (⟨g, j * 11, none⟩ : Addr).add t = ⟨g, 0 + (j * 11 + t), none⟩ := by unfold Addr.add; split <;> simp_all
   rw [e]; exact this
 have s1 := qq hlen
 have s2 : Hid (∀ u ∈ news, u.oneCell' = true) := qq (by
  intro u hu; rw [E] at hu; obtain ⟨x, _, hx⟩ := List.mem_flatMap.1 hu
  exact ag5 x u hx)
 have J : (L.flatMap abl).length = L.length * 11 := abp aac L
 have s3 : Hid (∀ t, t < news.length → (w.drew.cell? ⟨g, 0 + i * 11 + t, none⟩).isSome = true ∧ w.drew.frozen? ⟨g, 0 + i * 11 + t, none⟩ = false) := qq (by
  intro t G; rw [hlen] at G; have K : i * 11 + t < (L.flatMap abl).length := by rw [J]; omega
  refine ⟨?_, X _⟩; show (w.cell? _).isSome = true
  rw [Nat.add_assoc, H _ _ (List.getElem?_eq_getElem K)]; rfl)
 obtain ⟨W1, I⟩ := zj (w.drew.setCells g (0 + i * 11) news)
 have hown1 : W1.ownsRow base 60 11 (.slice (some ⟨g, 0, none⟩) L.length D) L.length (abg (L.flatMap abl) (i * 11) news) := by
  have := abh news (i * 11) w.drew _ h; rw [I]; simpa using this
 have W : (abg (L.flatMap abl) (i * 11) news).length = L.length * 11 := by rw [ab7, J]
 have al : ∀ M, (Builtin.clear_ #[49] M #[.slice (some ⟨g, (i + (L.length - j)) * 11, none⟩) (L.length - (i + (L.length - j))) (D - (i + (L.length - j)))]).run prog W1 = .ok (.tuple #[]) (W1.setCells g ((i + (L.length - j)) * 11) [.int .u64 0, .string ⟨#[]⟩, .bool false, .bool false, .string ⟨#[]⟩, .int .u8 0, .int .u64 0, .string ⟨#[]⟩, .slice none 0 0, .slice none 0 0, .string ⟨#[]⟩]) := fun M => by
  refine aev W1 _ 60 M (.agg #[.int .u64 0, .string ⟨#[]⟩, .bool false, .bool false, .string ⟨#[]⟩, .int .u8 0, .int .u64 0, .string ⟨#[]⟩, .slice none 0 0, .slice none 0 0, .string ⟨#[]⟩]) _ underlying49 (fun w => by kernel_rfl) rfl (by simp [Value.oneCell']) g ((i + (L.length - j)) * 11) _ _ (by omega) (fun t G => ?_) (fun t G => ?_)
  ·simp only [jn, List.length_nil] at G
   have K : (i + (L.length - j)) * 11 + t < (abg (L.flatMap abl) (i * 11) news).length := by rw [W]; omega
   have := World.ownsRow.cells hown1 (g := g) rfl _ _ (List.getElem?_eq_getElem K); have e : (⟨g, 0, none⟩ : Addr).add ((i + (L.length - j)) * 11 + t) = ⟨g, (i + (L.length - j)) * 11 + t, none⟩ := by unfold Addr.add; split <;> simp_all
   rw [← e, this]; rfl
  ·exact agk
 have hW := qq I
 have z := qq hown1
 have Z := qq E
 clear I hown1 O E hlen H X h W J
 obtain ⟨ah, aj⟩ := aa
 have ak : j ≤ L.length := by omega
 have af : j ≤ D := by omega
 have ae : i < j := by omega
 have ai : ¬ i = j := by omega
 have N := qq U
 clear U
 have an : i ≤ D := by omega
 go_enter func143, ntmps143
 go_wp2_with fail
 go_region_law (refine step_append_room rfl (.tmp 22) (.tmp 25) 49 rfl 60 i0 11 underlying49 ad ac g 0 i D (by simp [Act.eval, Act.put]) A (L.length - j) (D - j) news (by simp [Act.eval, Act.put]) s1.out ab.out s2.out (by omega) s3.out ?_; rw [← hW.out])
 go_wp2
 go_ret
 have e1 : i + (L.length - j) = L.length - 1 := by have := N.out; omega
 rw [e1]
 refine ⟨rfl, ?_, ?_⟩
 ·have F := apm (abh [.int .u64 0, .string ⟨#[]⟩, .bool false, .bool false, .string ⟨#[]⟩, .int .u8 0, .int .u64 0, .string ⟨#[]⟩, .slice none 0 0, .slice none 0 0, .string ⟨#[]⟩] ((L.length - 1) * 11) W1 _ z.out) (n' := L.length - 1) (by omega)
  rw [Z.out] at F; have hj := N.out; rw [hj] at F; rw [ahs aac L i hi _ rfl] at F; unfold Own; rw [List.length_eraseIdx_of_lt hi]; exact F
 ·exact agl
theorem akx {base : Nat} (w : World) (g A i : Nat) (L : List MsT) (h : Own base 60 11 abl w (.slice (some ⟨g, 0, none⟩) L.length A) L) (hi : i < L.length) (E : L.length ≤ 1000000) :
 Calls prog 143 #[.slice (some ⟨g, 0, none⟩) L.length A, .int .i64 i, .int .i64 ((i : Int) + 1)] w fun e D =>
  e = .returned (.slice (some ⟨g, 0, none⟩) (L.length - 1) A) ∧ Own base 60 11 abl D (.slice (some ⟨g, 0, none⟩) (L.length - 1) A) (L.eraseIdx i) ∧ Upd (· = g) w D := by
 have := akd w g A i (i + 1) rfl L h hi E
 rwa [Int.natCast_add] at this
def beb (B m : Nat) (ex : Value) (t : StT) (w : World) (s : St) (r : Ending) (w' : World) : Prop := r = .returned (.tuple #[]) ∧ (∃ t' : StT, t'.s = s ∧ MkS B m ex w' t') ∧ Upd (Sto m t) w w'
theorem axw {nx : Int} {qv bv E v : Value} {Q : List QuT} {zk : List BrT} {hs : List He} {m1 m2 : Nat} (F : m1 < Q.length) (G : ∀ i, v.ownBlock = some i → Q[m1].mv.ownBlock = some i) {i : Nat} (A : Mut (StT.mk nx qv bv E (aj3 Q m1 m2 v) zk hs).mv i) : Mut (StT.mk nx qv bv E Q zk hs).mv i := by
 rw [aio F] at A
 unfold StT.mv at A ⊢
 simp only [aab, abd] at A ⊢
 rcases A with e | e | e | e | e
 ·exact .inl e
 ·exact .inr (.inl e)
 ·exact .inr (.inr (.inl e))
 ·obtain ⟨u, H, e⟩ := e
  obtain ⟨q, D, rfl⟩ := jv.1 H; rcases jd D with D | rfl
  ·exact .inr (.inr (.inr (.inl ⟨_, jw D, e⟩)))
  ·exact .inr (.inr (.inr (.inl ⟨_, jw (qy F), G i e⟩)))
 ·exact .inr (.inr (.inr (.inr e)))
theorem an3 (w : World) (B m : Nat) (ex : Value) (nx : Int) (Z : Option Addr) (qc : Nat) (M : Option Addr) (K : Nat) (I : Option Addr) (J : Nat) (qs : List QuT) (zk : List BrT) (hs : List He) (pa : Option Addr) (pc : Nat) (ta : Option Addr) (tc : Nat) (zu : List PtT) (zy : List Rf) (hM : MkS B m ex w (StT.mk nx (.slice Z qs.length qc) (.slice M zk.length K) (.slice I hs.length J) qs zk hs)) (fh : B ≤ w.heap.size) (cu : QsOk qs) (gc : zy.length ≤ 1000000)
 (dz : Slc abc 2 w (.slice ta zy.length tc) zy) (dw : ∀ k, Value.ownBlock (.slice ta zy.length tc) = some k → zy ≠ [] → k ≠ m ∧ ¬ Mut (StT.mk nx (.slice Z qs.length qc) (.slice M zk.length K) (.slice I hs.length J) qs zk hs).mv k)
 (hT : ∀ k, (ad : k < zy.length) → hasM ((zy.take k).foldl ad9 (qs.map QuT.q)) zy[k] = true) (gg : zu.length ≤ 1000000)
 (d0 : Slc aat 12 w (.slice pa zu.length pc) zu) (d7 : ∀ k, Value.ownBlock (.slice pa zu.length pc) = some k → zu ≠ [] → k ≠ m ∧ ¬ Mut (StT.mk nx (.slice Z qs.length qc) (.slice M zk.length K) (.slice I hs.length J) qs zk hs).mv k) (ec : ∀ x ∈ zu, Rd (fun i => i ≠ m ∧ ¬ Mut (StT.mk nx (.slice Z qs.length qc) (.slice M zk.length K) (.slice I hs.length J) qs zk hs).mv i) w x.pr.app)
 (e4 : ∀ i, ex.ownBlock = some i → i < w.heap.size) (d3 : ∀ x ∈ zu, ad0 (qs.map QuT.q) x.q = true ∧ x.p.pr.smallB = true ∧ 0 ≤ x.id ∧ x.id ≤ 1099511627776) (dv : ∀ u, Upd (fun i => B ≤ i) w u → Tb u) :
 Calls prog 97 #[.pointer (some ⟨m, 0, none⟩), .slice pa zu.length pc, .slice ta zy.length tc] w (beb B m ex (StT.mk nx (.slice Z qs.length qc) (.slice M zk.length K) (.slice I hs.length J) qs zk hs) w ((StT.mk nx (.slice Z qs.length qc) (.slice M zk.length K) (.slice I hs.length J) qs zk hs).s.work (zu.map PtT.p) zy)) := by
 have gd : (zu.length : Int) ≤ 1000000 := by omega
 obtain ⟨S1, cy⟩ : ∃ S1 : St, { (StT.mk nx (.slice Z qs.length qc) (.slice M zk.length K) (.slice I hs.length J) qs zk hs).s with qs := zy.foldl ad9 (qs.map QuT.q) } = S1 := ⟨_, rfl⟩
 have d8 : (StT.mk nx (.slice Z qs.length qc) (.slice M zk.length K) (.slice I hs.length J) qs zk hs).s.work (zu.map PtT.p) zy = (zu.map PtT.p).foldl aod S1 := by rw [← cy]; rfl
 rw [d8]
 have es := qq cy; have ef := qq d0; have eq := qq d7; have e6 := qq ec; have er := qq d3; have ew := qq dv; have cm := qq cu.rq
 clear d8 cy d0 d7 ec d3 dv
 have gi : (zy.length : Int) ≤ 1000000 := by omega
 obtain ⟨S0, d1⟩ : ∃ S0 : Nat → Prop, S0 = fun i => i = m ∨ Mut (StT.mk nx (.slice Z qs.length qc) (.slice M zk.length K) (.slice I hs.length J) qs zk hs).mv i := ⟨_, rfl⟩
 have ed := qq hM; have dn := qq cu; have fk := qq hT; have ej := qq dz; have e8 := qq dw; have b1 := qq d1
 clear hM cu hT dz dw d1
 go_enter func97, ntmps97
 go_wp2
 go_loopw [7, 8, 9, 10, 17] (fun s7 s8 s9 fl cx wr => ∃ (k : Nat) (Q : List QuT), k ≤ zy.length ∧ cx = .int .i64 k ∧ MkS B m ex wr (StT.mk nx (.slice Z qs.length qc) (.slice M zk.length K) (.slice I hs.length J) Q zk hs) ∧ Hid (Q.map QuT.q = (zy.take k).foldl ad9 (qs.map QuT.q)) ∧ Hid (QsOk Q) ∧ Q.length = qs.length ∧ Hid (∀ i, Mut (StT.mk nx (.slice Z qs.length qc) (.slice M zk.length K) (.slice I hs.length J) Q zk hs).mv i → i < w.heap.size → Mut (StT.mk nx (.slice Z qs.length qc) (.slice M zk.length K) (.slice I hs.length J) qs zk hs).mv i) ∧ Upd S0 w wr) (fun s7 s8 s9 fl cx _ => zy.length - (intOf cx).toNat)
 case atStart => exact ⟨0, qs, Nat.zero_le _, rfl, ed.out, qq rfl, dn, rfl, qq (fun i ad _ => ad), Upd.refl _ _⟩
 case round =>
  obtain ⟨k, Q, hk, rfl, bx, hQ, bn, bp, bl, hU⟩ := hrel; have bj := qq bp; clear bp; by_cases bb : k < zy.length
  ·have ev : (k : Int) < (zy.length : Int) := by omega
   have bo : Slc abc 2 wr (.slice ta zy.length tc) zy := ej.out.updL hU (fun hn b e hs => by
    obtain ⟨H, h2⟩ := e8.out b e hn; rw [b1.out] at hs; rcases hs with e | e
    ·exact H e
    ·exact h2 e)
   obtain ⟨g, off, rfl⟩ := bo.addrB bb; obtain ⟨q, id, h, c0, c1⟩ := ado bo bb; obtain ⟨mp, b8⟩ := qx (aqg Q ⟨q, id⟩); obtain ⟨m1, m2, mh⟩ := mp
   have ft : mh = true := by
    have H := aqn (qs := Q) (r := ⟨q, id⟩) bn.out (by rw [hQ.out, ← h]; exact fk.out k bb); rw [b8] at H; exact H
   subst ft; obtain ⟨H, h2, hn, d5⟩ := aun bn.out b8; have ce := fun (v : World) (ad : Below wr.heap.size wr v) => ag6 v nx Z qc M zk.length K I hs.length J Q _ q id (by rw [bj.out]; exact (bx.pure ad).rd.qs) bn.out
   rw [b8, bj.out] at ce; dsimp only at ce; have em := qq ce; have cp := qq h; have cd := qq hn; have dq := qq d5; clear ce h b8 hn d5 bo; go_upto_region 3 with fail; have ao := (qz wr.heap.size wr).alloc (qj _) (.cells #[.string q, .int .u64 id] 68); have E1 := Blk.new wr [.string q, .int .u64 id] 68; generalize wr.heap.size = nb at E1 ⊢; generalize wr.alloc (.cells #[.string q, .int .u64 id] 68) = u at E1 ao ⊢; clear c0 c1; have A0 : Blk u m [.int .u64 nx, .slice Z qs.length qc, .slice M zk.length K, .slice I hs.length J] := (bx.pure ao).a.blk; have F := aan (qz u.heap.size u); refine wp_region_held_drew (S := fun v => Below u.heap.size u v) (by kernel_rfl) F (fun A => ?_); refine tkH 0 A ?_; refine tkH 1 A ?_; refine tkH 2 A ?_; refine tkF 3 A ?_ (fun v Y => (A0.pure Y).a4); refine tkF 4 A ?_ (fun v Y => (E1.pure Y).a2); refine aai 5 rfl (fun Kq W => ?_); go_simp
   (go_at_call 101; (with_reducible refine (em.out _ (ao.trans (F.mono ao.size))).mono ?_); rintro e N ⟨rfl, bw⟩)
   have F : Below u.heap.size u N := F.trans (bw.mono F.size); refine W.out _ _ F (fun A => ?_); clear W Kq; (try simp only [Act.put, lsT, lsZ, lsS]); refine tkH 6 A ?_; refine tkH 7 A ?_; refine tkH 8 A ?_; refine tkH 9 A ?_; refine tkH 10 A ?_; refine tkH 11 A ?_; refine tkH 12 A ?_; refine wpAnyH_done (by kernel_rfl) ?_ _; have az := ao.trans (F.mono ao.size); have O := bx.pure az; have A3 : Blk N m [.int .u64 nx, .slice Z qs.length qc, .slice M zk.length K, .slice I hs.length J] := O.a.blk; obtain ⟨E, rfl, e9⟩ := abr O.q H; have a1 := O.mm _ (qy H); obtain ⟨U, G, an, -⟩ : ∃ a c, Q[m1].mv = .slice a Q[m1].zw.length c ∧ Q[m1].zw.length ≤ maxLen := (a1.slc aac).len
   obtain ⟨z, fj, -⟩ := abr (an ▸ a1) h2; subst fj; have fm : m1 < qs.length := by rw [← bj.out]; exact H
   have ca : (m1 : Int) < (qs.length : Int) := by omega
   have cg : Q[m1].zw.length ≤ 1000000 := bn.out.lm _ (qy H); have bg : Own B 60 11 abl N (.slice (some ⟨z, 0, none⟩) Q[m1].zw.length G) Q[m1].zw := an ▸ a1; have eh : z ≠ E := fun e => aaz a1 O.q (by decide) (by rw [an]; rfl) (by rw [e]; rfl)
   have df : z ≠ m := fun e => abm a1 O.a (by decide) (by rw [an, e]; rfl)
   have b3 : E ≠ m := fun e => abm O.q O.a (by decide) (by rw [e]; rfl)
   obtain ⟨D, ay⟩ := zj (Q[m1].zw); rw [← ay] at bg cg; have fz : m2 < D.length := by rw [ay]; exact h2
   have f1 : (0 : Int) ≤ (m2 : Int) := by omega
   have ga : (m2 : Int) + 1 ≤ 1000001 := by omega
   have eo : (0 : Int) ≤ (m1 : Int) := by omega
   have fv := qq (show IntKind.i64.wrap ((m2 : Int) + 1) = (m2 : Int) + 1 by rw [IntKind.wrap_i64]; omega); have d2 : N.cell? ⟨E, m1 * 3 + 2, none⟩ = some (.slice (some ⟨z, 0, none⟩) D.length G) := O.q.cell aaf m1 H 2 _ (by show some (one Q[m1].mv) = _; rw [an, ay]; rfl); have fq := O.q.frozen (m1 * 3 + 2); have ax := qq an; have al := qq ay; have cn := qq bg; have et := qq (fun (v : Value) => axi (r := ⟨q, id⟩) (m1 := m1) (m2 := m2) (v := v) bn.out H h2 cd.out dq.out); clear F A bw a1 an ay bg cd dq; go_upto_region 4 with fail; have F := (Upd.refl (fun k => k = z ∨ k = E) N).drew; refine wp_region_held_drew (S := fun v => Upd (fun k => k = z ∨ k = E) N v) (by kernel_rfl) F (fun A => ?_); refine tkH 0 A ?_; refine tkH 1 A ?_; refine tkH 2 A ?_; refine tkH 3 A ?_; refine tkF 4 A ?_ (fun v Y => (A3.upd Y (fun e => e.elim (fun e => df e.symm) (fun e => b3 e.symm))).at 1 rfl); refine tkH 5 A ?_; refine tkH 6 A ?_; refine tkH 7 A ?_; refine tkH 8 A ?_; refine tkH 9 A ?_; refine tkF 10 A ?_ (fun v Y => (A3.upd Y (fun e => e.elim (fun e => df e.symm) (fun e => b3 e.symm))).at 1 rfl); refine tkH 11 A ?_; refine tkH 12 A ?_; refine tkH 13 A ?_; refine tkH 15 A ?_; refine tkH 16 A ?_; refine tkH 17 A ?_; refine aai 14 rfl (fun Kq W => ?_); go_simp; refine W.out _ _ F (fun A => ?_); clear W Kq; (try simp only [Act.put, lsT, lsZ, lsS]); refine aai 18 rfl (fun Kq W => ?_); go_simp; rw [fv.out]
   (go_at_call 143; (with_reducible refine (akx N.drew z G m2 D (cn.out.pure (aan (qz _ _))) fz cg).mono ?_); rintro e w5 ⟨rfl, fg, eb⟩)
   have F : Upd (fun k => k = z ∨ k = E) N w5 := F.trans eb (fun k e _ => .inl e); refine W.out _ _ F (fun A => ?_); clear W Kq; (try simp only [Act.put, lsT, lsZ, lsS]); refine tkH 19 A ?_; refine tkH 20 A ?_; have d6 : Upd (fun k => k = z) N w5 := (Upd.of_below (aan (qz N.heap.size N))).trans eb (fun k e _ => e)
   have cv := O.q.upd d6 (fun k hk e => eh (by
    have H : E = k := by simpa [Value.ownBlock] using hk
    have e : k = z := e
    omega))
   have d2 : w5.cell? ⟨E, m1 * 3 + 2, none⟩ = some (.slice (some ⟨z, 0, none⟩) D.length G) := cv.cell aaf m1 H 2 _ (by show some (one Q[m1].mv) = _; rw [ax.out, al.out]; rfl); have fq := cv.frozen (m1 * 3 + 2); clear cv; refine aai 21 rfl (fun Kq W => ?_); go_simp; have F : Upd (fun k => k = z ∨ k = E) N (w5.setCell ⟨E, m1 * 3 + 2, none⟩ (.slice (some ⟨z, 0, none⟩) (D.length - 1) G)) := F.trans (Upd.set (S := fun k => k = E) rfl _) (fun k e _ => .inr e); refine W.out _ _ F (fun A => ?_); clear W Kq; (try simp only [Act.put, lsT, lsZ, lsS]); refine wpAnyH_done (by kernel_rfl) ?_ _; have M5 := O.setM H (g := E) (r := (.slice (some ⟨z, 0, none⟩) (D.length - 1) G)) (L := D.eraseIdx m2) rfl fg rfl rfl (d6.mono (fun k e _ => by rw [ax.out, show k = z from e]; rfl)) (fun i e => .inl (by rw [ax.out]; exact e)) (fun x h => .inl ⟨x, by rw [← al.out]; exact (List.eraseIdx_sublist D m2).subset h, rfl⟩) (fun x h => O.wf.mi _ (qy H) x (by rw [← al.out]; exact (List.eraseIdx_sublist D m2).subset h))
   have M6 : MkS B m ex (w5.setCell ⟨E, m1 * 3 + 2, none⟩ (.slice (some ⟨z, 0, none⟩) (D.length - 1) G)) (StT.mk nx (.slice (some ⟨E, 0, none⟩) qs.length qc) (.slice M zk.length K) (.slice I hs.length J) (aj3 Q m1 m2 (.slice (some ⟨z, 0, none⟩) (D.length - 1) G)) zk hs) := by
    rw [show aj3 Q m1 m2 (.slice (some ⟨z, 0, none⟩) (D.length - 1) G) = Q.set m1 { Q[m1] with mv := (.slice (some ⟨z, 0, none⟩) (D.length - 1) G), zw := D.eraseIdx m2 } from by rw [aio H, al.out]]; exact M5
   have fr := qq (show (aj3 Q m1 m2 (.slice (some ⟨z, 0, none⟩) (D.length - 1) G)).map QuT.q = (zy.take (k + 1)).foldl ad9 (qs.map QuT.q) by
    rw [jx bb, List.foldl_append, ← hQ.out, cp.out]
    exact (et.out _).symm)
   have ey := qq (bn.out.taken (m2 := m2) (v := (.slice (some ⟨z, 0, none⟩) (D.length - 1) G)) H); have el := qq (show ∀ i, Mut (StT.mk nx (.slice (some ⟨E, 0, none⟩) qs.length qc) (.slice M zk.length K) (.slice I hs.length J) (aj3 Q m1 m2 (.slice (some ⟨z, 0, none⟩) (D.length - 1) G)) zk hs).mv i → i < w.heap.size → Mut (StT.mk nx (.slice (some ⟨E, 0, none⟩) qs.length qc) (.slice M zk.length K) (.slice I hs.length J) qs zk hs).mv i from fun i ad hl => bl.out i (axw H (fun j e => by rw [ax.out]; exact e) ad) hl)
   have fw : Upd S0 w (w5.setCell ⟨E, m1 * 3 + 2, none⟩ (.slice (some ⟨z, 0, none⟩) (D.length - 1) G)) := (hU.trans (Upd.of_below (S := S0) az) (fun _ e _ => e)).trans F (fun k e hk => by
    rw [b1.out]; refine .inr (bl.out k ?_ hk); rcases e with e | e
    ·unfold StT.mv; simp only [aab, abd]
     exact .inr (.inr (.inr (.inl ⟨_, jw (qy H), by rw [ax.out, e]; rfl⟩)))
    ·exact aab.2 (.inl (by rw [e]; rfl)))
   have fd := qq M6; clear M5 M6 F A; go_wp2; go_roundw
   case rel => exact ⟨k + 1, _, by omega, by go_num, fd.out, fr, ey, (auo _ _ _ _).trans bj.out, el, fw⟩
   case measure => simp [intOf]; omega
  ·obtain rfl : k = zy.length := by omega
   rw [js] at hQ; obtain ⟨wo, rfl⟩ := zj wr; have eu := bj.out; have dx := qq (QsN.of hQ.out bn.out); have dg := qq (show (StT.mk nx (.slice Z qs.length qc) (.slice M zk.length K) (.slice I hs.length J) Q zk hs).s = ((zu.take 0).map PtT.p).foldl aod S1 by rw [← es.out]; unfold StT.s; dsimp only; rw [hQ.out]; rfl); have d4 := qq bx; have dd := bl; have dy := hU; clear bx bl hU bj eu; go_wp2; go_loopw [12, 13, 14, 55] (fun fy fn fx cz wr => ∃ (k : Nat) (n1 : Int) (X : List QuT), k ≤ zu.length ∧ cz = .int .i64 k ∧ MkS B m ex wr (StT.mk n1 (.slice Z qs.length qc) (.slice M zk.length K) (.slice I hs.length J) X zk hs) ∧ Hid ((StT.mk n1 (.slice Z qs.length qc) (.slice M zk.length K) (.slice I hs.length J) X zk hs).s = ((zu.take k).map PtT.p).foldl aod S1) ∧ Hid (QsN qs X k) ∧ Hid (∀ i, Mut (StT.mk n1 (.slice Z qs.length qc) (.slice M zk.length K) (.slice I hs.length J) X zk hs).mv i → i < w.heap.size → Mut (StT.mk nx (.slice Z qs.length qc) (.slice M zk.length K) (.slice I hs.length J) qs zk hs).mv i) ∧ Upd S0 w wr) (fun fy fn fx cz _ => zu.length - (intOf cz).toNat)
   case atStart => exact ⟨0, nx, Q, Nat.zero_le _, rfl, d4.out, dg, dx, dd, dy⟩
   case round =>
    obtain ⟨k, n1, X, hk, rfl, M2, cr, hN, bl, hU⟩ := hrel; clear d4 dg dx dd dy; by_cases bb : k < zu.length
    ·have ev : (k : Int) < (zu.length : Int) := by omega
     have b0 : ∀ i, S0 i ↔ i = m ∨ Mut (StT.mk nx (.slice Z qs.length qc) (.slice M zk.length K) (.slice I hs.length J) qs zk hs).mv i := fun i => by rw [b1.out]
     have bo : Slc aat 12 wr (.slice pa zu.length pc) zu := ef.out.updL hU (fun hn b e hs => by
      obtain ⟨H, h2⟩ := eq.out b e hn; rcases (b0 b).1 hs with e | e
      ·exact H e
      ·exact h2 e)
     have b7 := (e6.out _ (qy bb)).lt.upd hU (fun i hi e => by
      rcases (b0 i).1 e with e | e
      ·exact hi.1.1 e
      ·exact hi.1.2 e)
     obtain ⟨g, off, rfl⟩ := bo.addrB bb; obtain ⟨q, id, key, bk, red, mid, uk, un, us, bh, bi, bf, bd, aq, ul, ac, h, c0, c1, c2, c3, c4, c5, c6, c7, c8, c9, fc, fi⟩ := ad5 bo bb b7; obtain ⟨b9, da, cf, cs⟩ := er.out _ (qy bb); rw [h] at b9 da cf cs b7; have cf : 0 ≤ id := cf; have cs : id ≤ 1099511627776 := cs
     obtain ⟨m1, H, hn, ca⟩ : ∃ (i : Nat) (ad : i < X.length), X[i].name = q ∧ lbK abf QuT.name X q = i := by
      obtain ⟨H, hn⟩ := aec cmpB_ok (hN.out.ris cm.out) (hN.out.hit b9); exact ⟨_, H, hn, rfl⟩
     have bp : X.length = qs.length := hN.out.len; have cw := fun (v : World) (ad : Below wr.heap.size wr v) => atQ v n1 Z qs.length qc M zk.length K I hs.length J X q (M2.pure ad).rd.q (fun i => B ≤ i) (M2.pure ad).rd.m (hN.out.ris cm.out) (by rw [bp]; exact dn.out.lq)
     rw [ca, hN.out.hit b9] at cw; have de := qq cw; have cp := qq h; have cd := qq hn; have di := qq da; have dj := qq b7; have bj := qq bp; have ci := qq b0; clear cw h hn ca b9 da b7 bo bp b0; go_upto_region 9 with fail; have ao := (qz wr.heap.size wr).alloc (qj _) (.cells #[.string q, .int .u64 id, .string key, .bool bk, .bool red, .string mid, .int .u8 uk, .int .u64 un, .string us, .slice bh aq.length bi, .slice bf ul.length bd, .string ac] 64); have E1 := Blk.new wr [.string q, .int .u64 id, .string key, .bool bk, .bool red, .string mid, .int .u8 uk, .int .u64 un, .string us, .slice bh aq.length bi, .slice bf ul.length bd, .string ac] 64; have dt : wr.heap.size < (wr.alloc (.cells #[.string q, .int .u64 id, .string key, .bool bk, .bool red, .string mid, .int .u8 uk, .int .u64 un, .string us, .slice bh aq.length bi, .slice bf ul.length bd, .string ac] 64)).heap.size := by simp
     have ep : wr.heap.size = wr.heap.size := rfl; obtain ⟨nb, db⟩ := zj wr.heap.size; rw [← db] at E1 dt ⊢; obtain ⟨u, hu⟩ := zj (wr.alloc (.cells #[.string q, .int .u64 id, .string key, .bool bk, .bool red, .string mid, .int .u8 uk, .int .u64 un, .string us, .slice bh aq.length bi, .slice bf ul.length bd, .string ac] 64)); rw [← hu] at E1 ao dt ⊢; have e3 := qq db; clear c0 c1 c2 c3 c4 c5 c6 c7 c8 c9 fc fi hu db ep; have A0 : Blk u m [.int .u64 n1, .slice Z qs.length qc, .slice M zk.length K, .slice I hs.length J] := (M2.pure ao).a.blk; have F := aan (qz u.heap.size u); refine wp_region_held_drew (S := fun v => Below u.heap.size u v) (by kernel_rfl) F (fun A => ?_); refine tkH 0 A ?_; refine tkH 1 A ?_; refine tkH 2 A ?_; refine tkF 3 A ?_ (fun v Y => (A0.pure Y).a4); refine tkH 4 A ?_; refine tkF 5 A ?_ (fun v Y => (E1.pure Y).at 0 rfl); refine aai 6 rfl (fun Kq W => ?_); go_simp
     (go_at_call 88; (with_reducible refine (de.out _ (ao.trans (F.mono ao.size))).mono ?_); rintro e N ⟨rfl, bw⟩)
     have F : Below u.heap.size u N := F.trans (bw.mono F.size); refine W.out _ _ F (fun A => ?_); clear W Kq; (try simp only [Act.put, lsT, lsZ, lsS]); refine tkH 7 A ?_; refine tkH 8 A ?_; refine tkH 9 A ?_; refine tkH 10 A ?_; refine tkH 11 A ?_; refine wpAnyH_done (by kernel_rfl) ?_ _; have az := ao.trans (F.mono ao.size); have O := M2.pure az; have A3 : Blk N m [.int .u64 n1, .slice Z qs.length qc, .slice M zk.length K, .slice I hs.length J] := O.a.blk; have E3 := E1.pure F; obtain ⟨E, rfl, e9⟩ := abr O.q H; have a1 := O.mm _ (qy H); obtain ⟨U, G, an, -⟩ : ∃ a c, X[m1].mv = .slice a X[m1].zw.length c ∧ X[m1].zw.length ≤ maxLen := (a1.slc aac).len
     have fm : m1 < qs.length := by rw [← bj.out]; exact H
     have ca : (m1 : Int) < (qs.length : Int) := by omega
     have eo : (0 : Int) ≤ (m1 : Int) := by omega
     have cg : X[m1].zw.length ≤ 1000000 + k := hN.out.lm _ (qy H); have bg : Own B 60 11 abl N (.slice U X[m1].zw.length G) X[m1].zw := an ▸ a1; obtain ⟨D, ay⟩ := zj (X[m1].zw); rw [← ay] at bg cg; have b3 : E ≠ m := fun e => abm O.q O.a (by decide) (by rw [e]; rfl)
     have gb : E < wr.heap.size := M2.q.lt rfl; have gf : m < wr.heap.size := M2.a.blk.lt; have eg := e3.out; have cj : ∀ i, Value.ownBlock (.slice U D.length G) = some i → i < wr.heap.size := fun i e => (M2.mm _ (qy H)).lt (by rw [an, ← ay]; exact e)
     have cl : ∀ i, Value.ownBlock (.slice U D.length G) = some i → i ≠ m := fun i e e2 => abm bg O.a (by decide) (by rw [e, e2])
     have dp : ∀ i, Value.ownBlock (.slice U D.length G) = some i → i ≠ E := fun i e e2 => aaz bg O.q (by decide) e (by rw [e2]; rfl)
     have cc : ¬ (fun i => Value.ownBlock (.slice U D.length G) = some i ∨ i = E) m := fun e => e.elim (fun e => cl m e rfl) (fun e => b3 e.symm)
     have bt : ¬ (fun i => Value.ownBlock (.slice U D.length G) = some i ∨ i = E) nb := fun e => by
      rcases e with e | e
      ·have := cj nb e; omega
      ·have e : nb = E := e; omega
     have ez := qq bt; have cc : ¬ (fun i => Value.ownBlock (.slice U D.length G) = some i) m := fun e => cc (.inl e)
     have bt : ¬ (fun i => Value.ownBlock (.slice U D.length G) = some i) nb := fun e => bt (.inl e)
     have d2 : N.cell? ⟨E, m1 * 3 + 2, none⟩ = some (.slice U D.length G) := O.q.cell aaf m1 H 2 _ (by show some (one X[m1].mv) = _; rw [an, ay]; rfl)
     have ds := qq (fun (v : World) (ad : Below N.heap.size N v) => afa (PT.mk key bk red mid (VT.mk uk un us (.slice bh aq.length bi) (.slice bf ul.length bd) aq ul)) _ v (((show Rd _ wr (VT.mk uk un us (.slice bh aq.length bi) (.slice bf ul.length bd) aq ul) from dj.out).pure az).pure ad) di.out (ew.out _ ((hU.trans (Upd.of_below (S := S0) (az.trans (ad.mono az.size))) (fun _ e _ => e)).mono (fun i e _ => by
      rcases (ci.out i).1 e with e | e
      ·rw [e]; exact O.mB
      ·exact ed.out.mutB e))))
     rw [show PT.arg (PT.mk key bk red mid (VT.mk uk un us (.slice bh aq.length bi) (.slice bf ul.length bd) aq ul)) = .agg #[.string key, .bool bk, .bool red, .string mid, .int .u8 uk, .int .u64 un, .string us, .slice bh aq.length bi, .slice bf ul.length bd] from PT.arg_mk ..] at ds; have ax := qq an; have al := qq ay; have cn := qq bg; have ch := qq cj; have ee := qq dp; have f0 := qq cl; have dk := qq cc; have ck := qq bt; clear F A bw a1 an ay bg eg cj dp cl cc bt dj di de; go_upto_region 10 with fail; have cb := aan (qz N.heap.size N); have F := (show Upd (fun i => Value.ownBlock (.slice U D.length G) = some i) N N.drew ∧ N.drew.cell? ⟨E, m1 * 3 + 2, none⟩ = some (.slice U D.length G) from ⟨(Upd.refl _ N).drew, d2⟩); refine acb (fun v => Upd (fun i => Value.ownBlock (.slice U D.length G) = some i) N v ∧ v.cell? ⟨E, m1 * 3 + 2, none⟩ = some (.slice U D.length G)) 27 F (fun A => ?_); clear d2; refine tkU 0 A ?_; refine tkU 1 A ?_; refine tkU 2 A ?_; refine tkU 3 A ?_; refine tkG 4 A ?_ (fun v Y => (A3.upd Y.1 dk.out).at 1 rfl); refine tkU 5 A ?_; refine tkU 6 A ?_; refine tkU 7 A ?_; refine tkU 8 A ?_; refine tkU 9 A ?_; refine tkG 10 A ?_ (fun v Y => (A3.upd Y.1 dk.out).at 1 rfl); refine tkU 11 A ?_; refine tkU 12 A ?_; refine tkU 13 A ?_; refine tkU 14 A ?_ (hy := fun v Y => by (try dsimp only at Y); have d2 := Y.2; clear Y; go_simp; (try with_reducible rfl)); refine tkU 15 A ?_; refine tkG 16 A ?_ (fun v Y => (E3.upd Y.1 ck.out).at 1 rfl); refine tkU 17 A ?_; refine tkG 18 A ?_ (fun v Y => have q := E3.upd Y.1 ck.out; And.intro (q.at 2 rfl) (And.intro (q.at 3 rfl) (And.intro (q.at 4 rfl) (And.intro (q.at 5 rfl) (And.intro (q.at 6 rfl) (And.intro (q.at 7 rfl) (And.intro (q.at 8 rfl) (And.intro (q.at 9 rfl) (q.at 10 rfl))))))))); refine tkU 20 A ?_; refine tkG 21 A ?_ (fun v Y => (E3.upd Y.1 ck.out).at 11 rfl); refine aiu 19 rfl (fun Kq W => ?_); go_simp
     (go_at_call 85; (with_reducible refine (ds.out _ cb).mono ?_); rintro e w5 ⟨fu, rfl, b6, bu, fa⟩)
     obtain ⟨am, ak, ag, ae, fp⟩ := fu; have bu : Rd (fun i => N.heap.size ≤ i) _ fp := bu; obtain ⟨au, av, ar, ah, ai, aj, af, aa, ab, rfl, -⟩ := bu.open; rw [PT.arg_mk]; have bq := cb.trans (fa.mono cb.size); have F : Upd (fun i => Value.ownBlock (.slice U D.length G) = some i) N w5 ∧ w5.cell? ⟨E, m1 * 3 + 2, none⟩ = some (.slice U D.length G) := ⟨Upd.of_below bq, (bq.cell (World.block_lt_of_cell? N _ F.2)).trans F.2⟩; have b6 := qq b6; refine W.out _ _ F (fun A => ?_); clear W Kq; (try simp only [Act.put, lsT, lsZ, lsS]); refine tkU 22 A ?_; refine aiu 23 rfl (fun Kq W => ?_); go_simp; have br := (qz w5.heap.size w5).alloc (qj _) (.cells #[.int .u64 id, .string am, .bool ak, .bool ag, .string ae, .int .u8 au, .int .u64 av, .string ar, .slice ah aa.length ai, .slice aj ab.length af, .string ac] 60); have dc := Blk.new w5 [.int .u64 id, .string am, .bool ak, .bool ag, .string ae, .int .u8 au, .int .u64 av, .string ar, .slice ah aa.length ai, .slice aj ab.length af, .string ac] 60; have bm := bq.trans (br.mono bq.size); have b5 : (w5.alloc (.cells #[.int .u64 id, .string am, .bool ak, .bool ag, .string ae, .int .u8 au, .int .u64 av, .string ar, .slice ah aa.length ai, .slice aj ab.length af, .string ac] 60)).heap.size = w5.heap.size + 1 := by simp
     obtain ⟨w6, dh⟩ := zj (w5.alloc (.cells #[.int .u64 id, .string am, .bool ak, .bool ag, .string ae, .int .u8 au, .int .u64 av, .string ar, .slice ah aa.length ai, .slice aj ab.length af, .string ac] 60)); rw [← dh] at dc bm br b5 ⊢; have F : Upd (fun i => Value.ownBlock (.slice U D.length G) = some i) N w6 ∧ w6.cell? ⟨E, m1 * 3 + 2, none⟩ = some (.slice U D.length G) := ⟨Upd.of_below bm, (br.cell (World.block_lt_of_cell? w5 _ F.2)).trans F.2⟩; have b5 := qq b5; clear dh; refine W.out _ _ F (fun A => ?_); clear W Kq; (try simp only [Act.put, lsT, lsZ, lsS]); refine aiu 24 rfl (fun Kq W => ?_); have dl := jk fh (jk hU.size (jk az.size bm.size)); have O6 := cn.out.pure bm; refine abe rfl (aaq (base := B) rfl (.tmp 83) (.tmp 92) 49 60 rfl aml aac _ D rfl O6 w5.heap.size 1 (MsT.mk id (PT.mk am ak ag ae (VT.mk au av ar (.slice ah aa.length ai) (.slice aj ab.length af) aa ab)) ac) (ag5 _) rfl (fun j u hu => (dc.cell j).trans hu) (by omega) (by unfold maxLen; omega) dl ?_); intro g' aw w7 ea ct d9; refine ⟨rfl, ?_⟩; have co := Upd.grown (S := (fun i => Value.ownBlock (.slice U D.length G) = some i)) ct (fun k e => e); have b4 := (Upd.of_below (S := (fun i => Value.ownBlock (.slice U D.length G) = some i)) bm).trans co (fun _ e _ => e); have cq := O.q.upd b4 (fun k hk e => ee.out k e (by have H : E = k := (by simpa [Value.ownBlock] using hk); exact H.symm)); have d2 : w7.cell? ⟨E, m1 * 3 + 2, none⟩ = some (.slice U D.length G) := cq.cell aaf m1 H 2 _ (by show some (one X[m1].mv) = _; rw [ax.out, al.out]; rfl); have fq := cq.frozen (m1 * 3 + 2); have F : Upd (fun i => Value.ownBlock (.slice U D.length G) = some i) N w7 ∧ w7.cell? ⟨E, m1 * 3 + 2, none⟩ = some (.slice U D.length G) := ⟨b4, d2⟩; have dr := qq d9; have e7 := qq ct; clear cq d9 ct; refine W.out _ _ F (fun A => ?_); clear W Kq; (try simp only [Act.put, lsT, lsZ, lsS]); refine tkU 25 A ?_; refine tkU 26 A ?_; refine aq2 27 rfl (fun Kq W => ?_); go_simp; have F : Upd (fun i => Value.ownBlock (.slice U D.length G) = some i ∨ i = E) N (w7.setCell ⟨E, m1 * 3 + 2, none⟩ (.slice (some ⟨g', 0, none⟩) (D.length + 1) aw)) := (F.1.mono (T := (fun i => Value.ownBlock (.slice U D.length G) = some i ∨ i = E)) (fun k e _ => .inl e)).trans (Upd.set (S := fun k => k = E) rfl _) (fun k e _ => .inr e); refine W.out _ _ ?_; clear W Kq; (try simp only [Act.put, lsT, lsZ, lsS]); refine asc ?_
     have b2 : ∀ i, Value.ownBlock (.slice (some ⟨g', 0, none⟩) (D.length + 1) aw) = some i → Value.ownBlock (.slice U D.length G) = some i ∨ i = w6.heap.size := fun i e => by
      have e : g' = i := by simpa [Value.ownBlock] using e
      rw [← e]; exact dr.out
     have dm : ∀ i, Mut (ex :: StT.mv (StT.mk n1 (.slice (some ⟨E, 0, none⟩) qs.length qc) (.slice M zk.length K) (.slice I hs.length J) X zk hs)) i → i < N.heap.size := fun i hM => by
      rcases aab.1 hM with e | e
      ·have := e4 i e; have := hU.size; have := az.size; omega
      ·exact O.mutL e
     have du := (Upd.of_below (S := (fun i => Value.ownBlock (.slice U D.length G) = some i)) br).trans co (fun _ e _ => e); have ek := b5.out; have fe := bm.size; have e5 := bq.size; have e0 := az.size; have fo := hU.size
     have M7 : MkS B m ex (w7.setCell ⟨E, m1 * 3 + 2, none⟩ (.slice (some ⟨g', 0, none⟩) (D.length + 1) aw)) (StT.mk n1 (.slice (some ⟨E, 0, none⟩) qs.length qc) (.slice M zk.length K) (.slice I hs.length J) (axj X m1 (.slice (some ⟨g', 0, none⟩) (D.length + 1) aw) (MsT.mk id (PT.mk am ak ag ae (VT.mk au av ar (.slice ah aa.length ai) (.slice aj ab.length af) aa ab)) ac)) zk hs) := by
      rw [show axj X m1 (.slice (some ⟨g', 0, none⟩) (D.length + 1) aw) (MsT.mk id (PT.mk am ak ag ae (VT.mk au av ar (.slice ah aa.length ai) (.slice aj ab.length af) aa ab)) ac) = X.set m1 { X[m1] with mv := (.slice (some ⟨g', 0, none⟩) (D.length + 1) aw), zw := D ++ [(MsT.mk id (PT.mk am ak ag ae (VT.mk au av ar (.slice ah aa.length ai) (.slice aj ab.length af) aa ab)) ac)] } from by rw [amq H, al.out]]; refine O.setM H (g := E) (r := (.slice (some ⟨g', 0, none⟩) (D.length + 1) aw)) (L := D ++ [(MsT.mk id (PT.mk am ak ag ae (VT.mk au av ar (.slice ah aa.length ai) (.slice aj ab.length af) aa ab)) ac)]) rfl ea rfl rfl (b4.mono (fun k e _ => by rw [ax.out, ← al.out]; exact e)) (fun i e => ?_) (fun x h => ?_) (fun x h => ?_)
      ·rcases b2 i e with e | e
       ·exact .inl (by rw [ax.out, ← al.out]; exact e)
       ·exact .inr (by omega)
      ·rcases List.mem_append.1 h with h | h
       ·exact .inl ⟨x, by rw [← al.out]; exact h, rfl⟩
       ·rw [jc.1 h]
        refine .inr ((bu.lt.upd du (fun i hi e => ?_)).weaken (fun i _ hi => ⟨?_, ?_, fun hM => ?_, fun e => ?_⟩))
        ·have := ch.out i e; omega
        ·have := O.mB; have := O.a.blk.lt; omega
        ·have := O.a.blk.lt; omega
        ·have := dm i hM; omega
        ·rcases b2 i e with e | e
         ·have := ch.out i e; omega
         ·omega
      ·rcases List.mem_append.1 h with h | h
       ·exact O.wf.mi _ (qy H) x (by rw [← al.out]; exact h)
       ·rw [jc.1 h]
        exact ⟨cf, by show id < _; omega⟩
     have A7 : Blk (w7.setCell ⟨E, m1 * 3 + 2, none⟩ (.slice (some ⟨g', 0, none⟩) (D.length + 1) aw)) m [.int .u64 n1, .slice (some ⟨E, 0, none⟩) qs.length qc, .slice M zk.length K, .slice I hs.length J] := M7.a.blk; have M8 := qq (M7.setN (n := id + 1) ⟨by omega, by omega⟩)
     have ff := qq (show (StT.mk (id + 1) (.slice (some ⟨E, 0, none⟩) qs.length qc) (.slice M zk.length K) (.slice I hs.length J) (axj X m1 (.slice (some ⟨g', 0, none⟩) (D.length + 1) aw) (MsT.mk id (PT.mk am ak ag ae (VT.mk au av ar (.slice ah aa.length ai) (.slice aj ab.length af) aa ab)) ac)) zk hs).s = ((zu.take (k + 1)).map PtT.p).foldl aod S1 by
      rw [jx bb, List.map_append, List.foldl_append, ← cr.out, List.map_singleton, cp.out]
      exact (az5 (p := PtT.p (PtT.mk q id (PT.mk key bk red mid (VT.mk uk un us (.slice bh aq.length bi) (.slice bf ul.length bd) aq ul)) ac)) (x := (MsT.mk id (PT.mk am ak ag ae (VT.mk au av ar (.slice ah aa.length ai) (.slice aj ab.length af) aa ab)) ac)) (hN.out.ris cm.out) H cd.out (by show Ms.mk id (PT.p _) ac = Ms.mk id (PT.p _) ac; rw [b6.out])).symm)
     have fs := qq (hN.out.put (v := (.slice (some ⟨g', 0, none⟩) (D.length + 1) aw)) (x := (MsT.mk id (PT.mk am ak ag ae (VT.mk au av ar (.slice ah aa.length ai) (.slice aj ab.length af) aa ab)) ac)) H)
     have ei := qq (show ∀ i, Mut (StT.mk (id + 1) (.slice (some ⟨E, 0, none⟩) qs.length qc) (.slice M zk.length K) (.slice I hs.length J) (axj X m1 (.slice (some ⟨g', 0, none⟩) (D.length + 1) aw) (MsT.mk id (PT.mk am ak ag ae (VT.mk au av ar (.slice ah aa.length ai) (.slice aj ab.length af) aa ab)) ac)) zk hs).mv i → i < w.heap.size → Mut (StT.mk nx (.slice (some ⟨E, 0, none⟩) qs.length qc) (.slice M zk.length K) (.slice I hs.length J) qs zk hs).mv i from fun i hM hl => by
      rcases az6 (nx := n1) H hM with ad | ad
      ·exact bl.out i ad hl
      ·rcases b2 i ad with e | e
       ·exact bl.out i (by unfold StT.mv; simp only [aab, abd]; exact .inr (.inr (.inr (.inl ⟨_, jw (qy H), by rw [ax.out, ← al.out]; exact e⟩)))) hl
       ·omega)
     have fb := ((hU.trans (Upd.of_below (S := S0) az) (fun _ e _ => e)).trans F (fun i e hi => by
      refine (ci.out i).2 (.inr (bl.out i ?_ hi)); unfold StT.mv; simp only [aab, abd]; rcases e with e | e
      ·exact .inr (.inr (.inr (.inl ⟨_, jw (qy H), by rw [ax.out, ← al.out]; exact e⟩)))
      ·exact .inl (by rw [show i = E from e]; rfl))).trans (Upd.set (S := fun i => i = m) (p := ⟨m, 0, none⟩) rfl (.int .u64 (id + 1))) (fun i e _ => (ci.out i).2 (.inl e))
     have E7 := E3.upd F ez.out; have e1 := E7.at 1 rfl; have a0 := A7.at 0 rfl; have gh := A7.frozen 0; clear F A bq bm br b4 co du b2 dm M7 dc O6 ea d2 fq E7 A7 ek fe e5 e0 fo dl cb ch dr e7 b6 bu; go_wp2; go_roundw
     case rel => exact ⟨k + 1, id + 1, _, by omega, by go_num, M8.out, ff, fs, ei, fb⟩
     case measure => simp [intOf]; omega
    ·obtain rfl : k = zu.length := by omega
     rw [js] at cr; go_wp2; go_end0; exact ⟨rfl, ⟨_, cr.out, M2⟩, hU.mono (fun i e _ => (by rw [b1.out] at e; exact e))⟩
theorem alx {s : Rf} : ∀ {l : List Rf} {qs : List Qu}, hasM qs s = true → (∀ r ∈ l, s ≠ r) → hasM (l.foldl ad9 qs) s = true
 | [], _, h, _ => h
 | r :: l, qs, h, hn => alx (l := l) (aup h (hn r (List.mem_cons_self ..))) (fun x A => hn x (List.mem_cons_of_mem _ A))
theorem an4 {qs : List Qu} {l : List Rf} (h : ∀ r ∈ l, hasM qs r = true ∧ aa8 l r ≤ 1) (k : Nat) (A : k < l.length) : hasM ((l.take k).foldl ad9 qs) l[k] = true := by
 refine alx (h _ (qy A)).1 (fun r E e => ?_)
 have F := (h _ (qy A)).2
 have D : l = l.take k ++ l[k] :: l.drop (k + 1) := by rw [← List.drop_eq_getElem_cons A, List.take_append_drop]
 have H := (congrArg (fun L => aa8 L l[k]) D).trans (aa6 _ _ _)
 have I : 0 < aa8 (l.take k) l[k] := abq.2 (e ▸ E)
 have G : 0 < aa8 (l[k] :: l.drop (k + 1)) l[k] := abq.2 (List.mem_cons_self ..)
 omega
theorem axx {qs : List Qu} {n : Int} {L : List Pt} {k : Nat} (A : k < L.length) : aen qs n (L.drop k) = if ad0 qs L[k].q = false then 7 else if L[k].id < n then 9 else aen qs (L[k].id + 1) (L.drop (k + 1)) := by
 rw [List.drop_eq_getElem_cons A, aen]
structure PutsOk (zu : List PtT) : Prop where
 s : ∀ x ∈ zu, x.p.pr.smallB = true
 i : ∀ x ∈ zu, 0 ≤ x.id ∧ x.id ≤ 1099511627776
 l : zu.length ≤ 1000000
theorem an5 {qs : List Qu} : ∀ {L : List Pt} {n : Int}, aen qs n L = 0 → ∀ p ∈ L, ad0 qs p.q = true
 | [], _, _, p, A => by cases A
 | q :: L, n, h, p, A => by
  unfold aen at h; by_cases D : ad0 qs q.q = false
  ·rw [qw D] at h; omega
  ·rw [qk D] at h
   by_cases E : q.id < n
   ·rw [qw E] at h; omega
   ·rw [qk E] at h
    rcases List.mem_cons.1 A with rfl | A
    ·simpa using D
    ·exact an5 h p A
theorem apo {B m : Nat} {A : Value} {w : World} {t : StT} (h : MkS B m A w t) {k : Nat} (D : k < B) : k ≠ m ∧ ¬ Mut t.mv k := ⟨by have := h.mB; omega, fun e => by have := h.mutB e; omega⟩
theorem az8 (w : World) (B m : Nat) (nx : Int) (F : Option Addr) (qc : Nat) (I : Option Addr) (E : Nat) (G : Option Addr) (H : Nat) (qs : List QuT) (zk : List BrT) (hs : List He) (ek : Int) (en : ByteArray) (ei : Int) (xf : Int) (xg xb : ByteArray) (Z : Option Addr) (Y : Nat) (N : Option Addr) (O : Nat) (A : List PtT) (D : List Rf) (W : MkS B m (.slice none 0 0) w (StT.mk nx (.slice F qs.length qc) (.slice I zk.length E) (.slice G hs.length H) qs zk hs)) (ci : B ≤ w.heap.size) (hE : EnRd (fun i => i < B) w (EnT.mk ek en ei (xf, xg, xb) (.slice Z A.length Y) (.slice N D.length O) A D)) (af : qsB nx (qs.map QuT.q) = true) (aj : StSm (StT.mk nx (.slice F qs.length qc) (.slice I zk.length E) (.slice G hs.length H) qs zk hs)) (hp : PutsOk A) (hl : D.length ≤ 1000000) (bu : ∀ u, Upd (fun i => B ≤ i) w u → Tb u) :
 Calls prog 32 #[.pointer (some ⟨m, 0, none⟩), .agg #[.int .u8 ek, .string en, .int .u64 ei, .int .u32 xf, .string xg, .string xb, .slice Z A.length Y, .slice N D.length O]] w (ag9 B m w ((StT.mk nx (.slice F qs.length qc) (.slice I zk.length E) (.slice G hs.length H) qs zk hs).s.doE (EnT.mk ek en ei (xf, xg, xb) (.slice Z A.length Y) (.slice N D.length O) A D).e)) := by
 have ae := (qz w.heap.size w).alloc (qj _) (.cells #[.int .u8 ek, .string en, .int .u64 ei, .int .u32 xf, .string xg, .string xb, .slice Z A.length Y, .slice N D.length O] 34)
 have E0 := Blk.new w [.int .u8 ek, .string en, .int .u64 ei, .int .u32 xf, .string xg, .string xb, .slice Z A.length Y, .slice N D.length O] 34
 have M0 := W.pure ae
 have A0 : Blk _ m [.int .u64 nx, .slice F qs.length qc, .slice I zk.length E, .slice G hs.length H] := M0.a.blk
 obtain ⟨M, ai⟩ := qx (aen (qs.map QuT.q) nx (A.map PtT.p))
 obtain ⟨te, al⟩ := qx (abw (StT.mk nx (.slice F qs.length qc) (.slice I zk.length E) (.slice G hs.length H) qs zk hs).s [] D)
 have bx : (StT.mk nx (.slice F qs.length qc) (.slice I zk.length E) (.slice G hs.length H) qs zk hs).s.doE (EnT.mk ek en ei (xf, xg, xb) (.slice Z A.length Y) (.slice N D.length O) A D).e = if M ≠ 0 then no M else if te ≠ 0 then no te else ((StT.mk nx (.slice F qs.length qc) (.slice I zk.length E) (.slice G hs.length H) qs zk hs).s.work (A.map PtT.p) D, 0) := by
  unfold St.doE; show (if aen (qs.map QuT.q) nx (A.map PtT.p) ≠ 0 then no (aen (qs.map QuT.q) nx (A.map PtT.p)) else if abw (StT.mk nx (.slice F qs.length qc) (.slice I zk.length E) (.slice G hs.length H) qs zk hs).s [] D ≠ 0 then no (abw (StT.mk nx (.slice F qs.length qc) (.slice I zk.length E) (.slice G hs.length H) qs zk hs).s [] D) else _) = _
  rw [ai, al]; rfl
 rw [bx]
 obtain ⟨R, hR⟩ := qx (if M ≠ 0 then no M else if te ≠ 0 then no te else ((StT.mk nx (.slice F qs.length qc) (.slice I zk.length E) (.slice G hs.length H) qs zk hs).s.work (A.map PtT.p) D, 0))
 rw [hR]
 have ah := qq hR
 clear hR
 have a1 : Slc aat 12 w (.slice Z A.length Y) A := hE.p
 have bb : Slc abc 2 w (.slice N D.length O) D := hE.s
 have bh : ∀ x ∈ A, Rd (fun i => i < B) w x.pr.app := hE.r
 have ad := qq (fun (v : World) (h : Below w.heap.size w v) => alu v B m (.slice none 0 0) nx F qc I E G H qs zk hs N O D (StT.mk nx (.slice F qs.length qc) (.slice I zk.length E) (.slice G hs.length H) qs zk hs).s (W.pure h) rfl af aj (bb.pure h) hl)
 rw [al] at ad
 have bn := qq (fun (v : World) (h : Below w.heap.size w v) (h1 : M = 0) (h2 : te = 0) => an3 v B m (.slice none 0 0) nx F qc I E G H qs zk hs Z Y N O A D (W.pure h) (jk ci h.size) (aj.ok af) hl (bb.pure h) (fun k e n => apo W (hE.sP k e n)) (an4 (fun r hr => by
  have := ae7 (al.trans h2) r hr
  exact ⟨this.1, by omega⟩)) hp.l (a1.pure h) (fun k e n => apo W (hE.pP k e n)) (fun x X => ((bh x X).pure h).weaken (fun i _ hi => apo W hi)) (fun i e => by simp [Value.ownBlock] at e) (fun x X => ⟨an5 (ai.trans h1) _ (jw X), hp.s x X, hp.i x X⟩) (fun u hu => bu u ((Upd.of_below (S := fun i => B ≤ i) h).trans hu (fun _ e _ => e))))
 have cu : (A.length : Int) ≤ 1000000 := by have := hp.l; omega
 have bi := qq W; have b7 := qq ai; have b5 := qq a1; have cb := qq bh; have b6 := qq af; have cl := qq hp
 have b3 := aj.q
 have b9 : Hid (qs.length ≤ 1000000) := qq b3
 have aw := qq W.wf.n
 clear W hE af aj hp bu ai al bx a1 bb bh M0 b3
 go_enter func32, ntmps32
 go_upto_region 1 with fail
 obtain ⟨u, hu⟩ := zj (w.alloc (.cells #[.int .u8 ek, .string en, .int .u64 ei, .int .u32 xf, .string xg, .string xb, .slice Z A.length Y, .slice N D.length O] 34))
 rw [← hu] at ae E0 A0 ⊢
 have ct : w.heap.size < u.heap.size := by rw [hu]; simp
 clear hu
 have a0 := A0.at 0 rfl; have e4 := E0.at 6 rfl
 have cm := aw.out.1; have cv := qq aw.out.2
 clear aw
 go_wp2
 clear a0 e4
 go_loopw [4, 6, 7, 8, 17] (fun s4 s6 s7 s8 az wr => ∃ (k : Nat) (n : Int), k ≤ A.length ∧ az = .int .i64 k ∧ s4 = .int .u64 n ∧ 0 ≤ n ∧ Hid (aen (qs.map QuT.q) n ((A.map PtT.p).drop k) = M) ∧ Below u.heap.size u wr) (fun s4 s6 s7 s8 az _ => A.length - (intOf az).toNat)
 case atStart => exact ⟨0, nx, Nat.zero_le _, rfl, rfl, cm, b7, qz _ _⟩
 case round =>
  obtain ⟨k, n, hk, rfl, rfl, hn, br, hB⟩ := hrel; have K := ae.trans (hB.mono ae.size); by_cases ac : k < A.length
  ·have cr : (k : Int) < (A.length : Int) := by omega
   have bd := b5.out.pure K; obtain ⟨g, off, rfl⟩ := bd.addrB ac; obtain ⟨q, id, key, bg, red, mid, uk, un, us, bj, bk, ax, bf, au, ul, ao, X, c0, c1, c2, c3, c4, c5, c6, c7, c8, c9, cc, cj⟩ := ad5 bd ac ((cb.out _ (qy ac)).pure K); have ak := cl.out.i _ (qy ac); rw [X] at ak; have cs : 0 ≤ id := ak.1; have cq : id ≤ 1099511627776 := ak.2; have am := axx (qs := qs.map QuT.q) (n := n) (L := A.map PtT.p) (k := k) (by simpa using ac); rw [br.out, zq, X] at am; have an : M = if ad0 (qs.map QuT.q) q = false then 7 else if id < n then 9 else aen (qs.map QuT.q) (id + 1) ((A.map PtT.p).drop (k + 1)) := am
   obtain ⟨b, z⟩ := qx (acv abf QuT.name qs q); obtain ⟨m1, b1⟩ := qx (lbK abf QuT.name qs q); have ay := fun (v : World) (h : Below w.heap.size w v) => atQ v nx F qs.length qc I zk.length E G hs.length H qs q (bi.out.pure h).rd.q (fun i => B ≤ i) (bi.out.pure h).rd.m (awq b6.out) b9.out
   rw [b1, z] at ay; rw [← anm, z] at an; have bo := qq ay; have ar := qq an; clear ay an am b1 z X ak bd; go_upto_region 5 with fail; have bm := (qz wr.heap.size wr).alloc (qj _) (.cells #[.string q, .int .u64 id, .string key, .bool bg, .bool red, .string mid, .int .u8 uk, .int .u64 un, .string us, .slice bj au.length bk, .slice ax ul.length bf, .string ao] 64); have E1 := Blk.new wr [.string q, .int .u64 id, .string key, .bool bg, .bool red, .string mid, .int .u8 uk, .int .u64 un, .string us, .slice bj au.length bk, .slice ax ul.length bf, .string ao] 64; have ab := hB.trans (bm.mono hB.size); have aa := K.trans (bm.mono K.size); generalize wr.heap.size = nb at E1 ⊢; generalize wr.alloc (.cells #[.string q, .int .u64 id, .string key, .bool bg, .bool red, .string mid, .int .u8 uk, .int .u64 un, .string us, .slice bj au.length bk, .slice ax ul.length bf, .string ao] 64) = x at E1 ab aa ⊢; clear c0 c1 c2 c3 c4 c5 c6 c7 c8 c9 cc cj bm hB K; have A1 := A0.pure ab; have U := aan (qz x.heap.size x); refine aal (fun v => Below x.heap.size x v) U (fun J => ?_); refine tkH 0 J ?_; refine tkH 1 J ?_; refine tkH 2 J ?_; refine tkF 3 J ?_ (fun v bl => (A1.pure bl).a4); refine tkH 4 J ?_; refine tkF 5 J ?_ (fun v bl => (E1.pure bl).at 0 rfl); refine aai 6 rfl (fun Kq b0 => ?_); go_simp
   (go_at_call 88; (with_reducible refine (bo.out _ (aa.trans (U.mono aa.size))).mono ?_); rintro e w3 ⟨rfl, bw⟩)
   have U : Below x.heap.size x w3 := U.trans (bw.mono U.size); refine b0.out _ _ U (fun J => ?_); clear b0 Kq; (try simp only [Act.put, lsT, lsZ, lsS]); refine tkH 7 J ?_; refine tkH 8 J ?_; refine tkH 9 J ?_; refine tkH 10 J ?_; refine tkH 11 J ?_; refine ah9 ?_; have ch := ab.trans (U.mono ab.size); have bq := aa.trans (U.mono aa.size); have E3 := E1.pure U; have e1 := E3.at 1 rfl; clear U J bw bo ab aa; cases b
   ·have ce : M = 7 := by rw [ar.out, qw rfl]
    subst ce; go_wp2_with (go_at_call 89; (with_reducible refine (acq _ _).mono ?_); rintro e w4 ⟨rfl, rfl⟩); rw [← ah.out, qw (show ((7 : Int)) ≠ 0 from by decide)]; exact ⟨rfl, adt (by decide) bq⟩
   by_cases cg : n ≤ id
   rotate_left 1
   ·have ck : M = 9 := by rw [ar.out, qk (by simp), qw (by omega)]
    subst ck; have cp : decide (n ≤ id) = false := qg cg; go_wp2_with (first | (go_at_call 89; (with_reducible refine (ab9 _ _).mono ?_); rintro e w4 ⟨rfl, rfl⟩) | (go_at_call 89; (with_reducible refine (acq _ _).mono ?_); rintro e w4 ⟨rfl, rfl⟩)); rw [← ah.out, qw (show ((9 : Int)) ≠ 0 from by decide)]; exact ⟨rfl, adt (by decide) bq⟩
   have b4 := qq (show aen (qs.map QuT.q) (id + 1) ((A.map PtT.p).drop (k + 1)) = M by rw [ar.out, qk (by simp), qk (by omega)]); go_wp2_with (go_at_call 89; (with_reducible refine (ab9 _ _).mono ?_); rintro e w4 ⟨rfl, rfl⟩); go_roundw
   case rel => exact ⟨k + 1, id + 1, by omega, by go_num, rfl, by omega, b4, ch⟩
   case measure => simp [intOf]; omega
  ·obtain rfl : k = A.length := by omega
   have ca : M = 0 := by
    have := br.out; rw [show (A.map PtT.p).drop A.length = [] from List.drop_eq_nil_of_le (by simp)] at this; exact this.symm
   subst ca; have Ew := E0.pure hB; have e4 := Ew.at 6 rfl; have e5 := Ew.at 7 rfl; obtain ⟨b, z⟩ := qx (decide (te = 0)); cases b
   ·have av : ¬ te = 0 := jq z
    have aq := qq (show _ from by have h := ad.out _ K; simp only [qk av] at h; exact h); have bp := qq av; clear ad bn z av; go_wp2_with (go_at_call 96; (with_reducible refine aq.out.mono ?_); rintro e w4 ⟨rfl, ag⟩); rw [← ah.out, qk (by simp), qw bp.out]; exact ⟨rfl, adt bp.out (K.trans (ag.mono K.size))⟩
   have hz : te = 0 := qt z; have aq := qq (show _ from by have h := ad.out _ K; simp only [qw hz] at h; exact h); have b8 := qq (fun v h => bn.out v h rfl hz); have co := qq hz; clear ad bn z hz; go_wp2_with (first | (go_at_call 96; (with_reducible refine aq.out.mono ?_); rintro e w4 ⟨rfl, ag⟩; have bt := K.trans (ag.mono K.size); have b2 := Ew.pure ag; have f4 := b2.at 6 rfl; have f5 := b2.at 7 rfl) | (go_at_call 97; (with_reducible refine (b8.out _ bt).mono ?_); rintro e w5 ⟨rfl, ⟨t5, cn, cf⟩, cd⟩)); go_end0; rw [← ah.out, qk (by simp), qk (by rw [co.out]; simp)]; exact aip cn cf ((Upd.of_below (S := fun i => B ≤ i) bt).trans cd (fun _ e _ => bi.out.stoB e))
theorem BrX.pure {B m : Nat} {w D : World} {t : StT} {b : BrT} (x : BrX B m w t b) (A : Below w.heap.size w D) : BrX B m D t b := ⟨x.p.pure A, x.tk.pure A, fun y hy => (x.r y hy).pure A, x.pi, x.ti⟩
structure BrOk (qs : List QuT) (b : BrT) : Prop where
 pq : ∀ p ∈ b.zu, ad0 (qs.map QuT.q) p.q = true ∧ p.p.pr.smallB = true
 tm : ∀ r ∈ b.zy, hasM (qs.map QuT.q) r = true ∧ aa8 b.zy r ≤ 1
 pl : b.zu.length ≤ 1000000
 tl : b.zy.length ≤ 1000000
end Go.Proofs.YtgnaifhmcllnlaaGreatDoor
