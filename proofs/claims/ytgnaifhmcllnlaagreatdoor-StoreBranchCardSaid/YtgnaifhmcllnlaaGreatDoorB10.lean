/- The maker's heurCommit and heurBack. Conditions: sizes; a store that is right. Written by gen_stLh.py. (Texts joined.) -/
import Derived.Test.YtgnaifhmcllnlaaGreatDoorB09
set_option maxRecDepth 100000
set_option maxHeartbeats 12800000
set_option linter.unusedSimpArgs false
set_option linter.unusedVariables false
namespace Go.Proofs.YtgnaifhmcllnlaaGreatDoor
open Go.RowKit Tryz
theorem bdp : (prog.info? 62).map (fun i => (i.zero, i.size)) = some (some (.agg #[.int .u32 0, .string ⟨#[]⟩, .string ⟨#[]⟩, .slice none 0 0, .slice none 0 0]), 5) := by kernel_rfl
def Sto (m : Nat) (t : StT) (i : Nat) : Prop := i = m ∨ Mut t.mv i
theorem auv {nx nx' : Int} {qv bv bv' hv : Value} {qs : List QuT} {zk : List BrT} {hs hs' : List He} {j : Nat} (hb : ∀ k, bv'.ownBlock = some k → bv.ownBlock = some k) {i : Nat} (hM : Mut (StT.mk nx' qv bv' hv qs (zk.eraseIdx j) hs').mv i) : Mut (StT.mk nx qv bv hv qs zk hs).mv i := by
 unfold StT.mv at hM ⊢
 simp only [aab, abd] at hM ⊢
 rcases hM with e | e | e | e | ⟨u, hu, e⟩
 ·exact .inl e
 ·exact .inr (.inl (hb i e))
 ·exact .inr (.inr (.inl e))
 ·exact .inr (.inr (.inr (.inl e)))
 ·obtain ⟨b, hb', rfl⟩ := jv.1 hu
  exact .inr (.inr (.inr (.inr ⟨_, jw ((List.eraseIdx_sublist zk j).subset hb'), e⟩)))
theorem MkS.stoB {B m : Nat} {ex : Value} {w : World} {t : StT} (h : MkS B m ex w t) {i : Nat} (hS : Sto m t i) : B ≤ i := by
 rcases hS with rfl | hM
 ·exact h.mB
 exact aj5
def bd9 (B m : Nat) (w w' : World) (r : Ending) (nx : Int) (qv bv hv : Value) (qs : List QuT) (zk : List BrT) (hs : List He) (i : Nat) (x : Xn) : Prop :=
 ∃ (yf : Int) (yg yb : ByteArray) (pa : Option Addr) (pc : Nat) (ta : Option Addr) (tc : Nat) (zu : List PtT) (zy : List Rf) (ra : Option Addr) (rn rc : Nat), zk[i]? = some (BrT.mk x (.slice pa zu.length pc) (.slice ta zy.length tc) zu zy) ∧ x = (yf, yg, yb) ∧ r = .returned (.agg #[.int .u32 yf, .string yg, .string yb, .slice pa zu.length pc, .slice ta zy.length tc]) ∧
  MkS B m (.slice pa zu.length pc) w' (StT.mk nx qv (.slice ra rn rc) hv qs (zk.eraseIdx i) hs) ∧ BrX B m w' (StT.mk nx qv (.slice ra rn rc) hv qs (zk.eraseIdx i) hs) (BrT.mk x (.slice pa zu.length pc) (.slice ta zy.length tc) zu zy) ∧ Upd (fun k => bv.ownBlock = some k ∨ k = m) w w' ∧ (∀ k, Value.ownBlock (.slice ra rn rc) = some k → bv.ownBlock = some k)
theorem alv (w : World) (B m : Nat) (nx : Int) (qa : Option Addr) (qc : Nat) (ba : Option Addr) (bc : Nat) (ha : Option Addr) (hc : Nat) (qs : List QuT) (zk : List BrT) (hs : List He) (xf : Int) (xg xb : ByteArray) (hM : MkS B m (.slice none 0 0) w (StT.mk nx (.slice qa qs.length qc) (.slice ba zk.length bc) (.slice ha hs.length hc) qs zk hs)) (hBw : B ≤ w.heap.size) (hr : RisK aav BrT.x zk) (hL : zk.length ≤ 1000000) :
 Calls prog 100 #[.pointer (some ⟨m, 0, none⟩), .agg #[.int .u32 xf, .string xg, .string xb]] w fun r w' => if acv aav BrT.x zk (xf, xg, xb) = true then bd9 B m w w' r nx (.slice qa qs.length qc) (.slice ba zk.length bc) (.slice ha hs.length hc) qs zk hs (lbK aav BrT.x zk (xf, xg, xb)) (xf, xg, xb) else r = .panicked [{ v := .iface 41 (.int .i64 7), recovered := false }] ∧ Below w.heap.size w w' := by
 have zb := bdp
 have hE0 := ((qz w.heap.size w).alloc (qj _) (.cells #[.int .u32 xf, .string xg, .string xb] 30)).alloc (by simp) (.cells #[.int .u32 0, .string ⟨#[]⟩, .string ⟨#[]⟩, .slice none 0 0, .slice none 0 0] 62)
 have E0 := (Blk.new w [.int .u32 xf, .string xg, .string xb] 30).alloc (.cells #[.int .u32 0, .string ⟨#[]⟩, .string ⟨#[]⟩, .slice none 0 0, .slice none 0 0] 62)
 have R0 := Blk.newE (w.alloc (.cells #[.int .u32 xf, .string xg, .string xb] 30)) [.int .u32 0, .string ⟨#[]⟩, .string ⟨#[]⟩, .slice none 0 0, .slice none 0 0] 62 (w.heap.size + 1) (by simp)
 have hml : m < w.heap.size := hM.a.blk.lt
 have hat := qq (fun (v : World) (h : Below w.heap.size w v) => atB v nx qa qs.length qc ba zk.length bc ha hs.length hc zk xf xg xb (hM.pure h).rd.b _ (hM.pure h).rd.e hr hL)
 obtain ⟨i, hi⟩ := zz (lbK aav BrT.x zk (xf, xg, xb))
 obtain ⟨b, hb0⟩ := zz (acv aav BrT.x zk (xf, xg, xb))
 have hib := qq (show b = true → ∃ h : i < zk.length, zk[i].x = (xf, xg, xb) from fun h => by subst hi; exact aec abu hr (hb0.trans h))
 have hat := qq (show ∀ v, Below w.heap.size w v → _ from fun v h => hi ▸ hb0 ▸ hat.out v h)
 rw [hi, hb0]
 clear hi hb0 hr
 go_enter func100, ntmps100
 go_upto_region 1 with fail
 generalize (w.alloc (.cells #[.int .u32 xf, .string xg, .string xb] 30)).alloc (.cells #[.int .u32 0, .string ⟨#[]⟩, .string ⟨#[]⟩, .slice none 0 0, .slice none 0 0] 62) = u at hE0 E0 R0 ⊢
 have hBu := hE0
 have M0 := hM.pure hE0
 have A0 : Blk u m [.int .u64 nx, .slice qa qs.length qc, .slice ba zk.length bc, .slice ha hs.length hc] := M0.a.blk
 have hb := aan (qz u.heap.size u)
 refine wp_region_held_drew (S := fun v => Below u.heap.size u v) (by kernel_rfl) hb (fun zg => ?_)
 refine tkH 0 zg ?_
 refine tkH 1 zg ?_
 refine tkH 2 zg ?_
 refine tkF 3 zg ?_ (fun v hSw => (A0.pure hSw).a4)
 refine tkF 4 zg ?_ (fun v hSw => (E0.pure hSw).a3)
 refine aai 5 rfl (fun Kq hKq => ?_)
 go_simp
 (go_at_call 52; (with_reducible refine (hat.out _ (hBu.trans (hb.mono hBu.size))).mono ?_); rintro e w2 ⟨rfl, hB2⟩)
 have hb : Below u.heap.size u w2 := hb.trans (hB2.mono hb.size)
 refine hKq.out _ _ hb (fun zg => ?_)
 clear hKq Kq
 (try simp only [Act.put, lsT, lsZ, lsS])
 refine tkH 6 zg ?_
 refine tkH 7 zg ?_
 refine tkH 8 zg ?_
 refine tkH 9 zg ?_
 refine tkH 10 zg ?_
 refine wpAnyH_done (by kernel_rfl) ?_ _
 have hB2 := hE0.trans (hb.mono hE0.size)
 have M2 := M0.pure hb; have R2 := R0.pure hb
 cases b
 ·exact ago
 obtain ⟨hil, hix⟩ := hib.out rfl
 clear hb zg M0 hE0 A0 E0 R0
 have A2 : Blk w2 m [.int .u64 nx, .slice qa qs.length qc, .slice ba zk.length bc, .slice ha hs.length hc] := M2.a.blk
 obtain ⟨g, rfl, hg⟩ := abr M2.b hil
 have hgl : g < w.heap.size := hM.b.lt rfl
 obtain ⟨yf, yg, yb, pa, pc, ta, tc, zu, zy, hx, hpl, htl, c0, c1, c2, c3, c4⟩ := adq (M2.b.slc aag) hil (M2.rd.e zk[i] (qy hil))
 simp only [Nat.zero_add] at c0 c1 c2 c3 c4
 have hi0 : (0 : Int) ≤ (i : Int) := by omega
 have hi1 : (i : Int) + 1 ≤ 1000001 := by omega
 have hil3 : (i : Int) < (zk.length : Int) := by omega
 have hgm : g ≠ m := fun e => abm M2.b M2.a (by decide) (by rw [← e]; rfl)
 have hMh := qq hM; have hxh := qq hx; have hixh := qq hix
 clear hx hix
 have a2 := A2.at 2 rfl
 go_upto_region 4 with (go_at_call 89; (with_reducible refine (ab9 _ _).mono ?_); rintro e w3 ⟨rfl, rfl⟩)
 have hAl := (qz w2.heap.size w2).alloc (qj _) (.cells #[.int .u32 yf, .string yg, .string yb, .slice pa zu.length pc, .slice ta zy.length tc] 62)
 have N0 := Blk.new w2 [.int .u32 yf, .string yg, .string yb, .slice pa zu.length pc, .slice ta zy.length tc] 62
 have hnl : w.heap.size + 2 ≤ w2.heap.size := R2.lt
 have M3 := M2.pure hAl; have R3 := R2.pure hAl; have A3 := A2.pure hAl
 have hB3 := hB2.trans (hAl.mono hB2.size)
 generalize w2.alloc (.cells #[.int .u32 yf, .string yg, .string yb, .slice pa zu.length pc, .slice ta zy.length tc] 62) = x at N0 M3 R3 A3 hB3 ⊢
 clear c0 c1 c2 c3 c4 a2 hAl
 have a2 := A3.at 2 rfl
 go_wp2_with (go_at_call 148; (with_reducible refine (akw x g bc i zk M3.b hil hL).mono ?_); rintro e w5 ⟨rfl, hO5, hU5⟩; have A5 := M3.a.upd hU5 (fun e => hgm (show m = g from e).symm); have R5 := R3.upd hU5 (fun e => by have e : w.heap.size + 1 = g := e; omega); have N5 := N0.upd hU5 (fun e => by have e : w2.heap.size = g := e; omega); have a2 := A5.blk.at 2 rfl; have af := A5.blk.frozen 2; obtain ⟨n0, n1, n2, n3, n4⟩ := N5.a5; obtain ⟨r0, r1, r2, r3, r4⟩ := R5.a5; obtain ⟨f0, f1, f2, f3, f4⟩ := R5.f5; have hnm : w2.heap.size ≠ m := fun e => by omega)
 have K := (((((R5.other ⟨m, 2, none⟩ (.slice (some ⟨g, 0, none⟩) (zk.length - 1) bc) (by simp only; omega)).set 0 (.int .u32 yf)).set 1 (.string yg)).set 2 (.string yb)).set 3 (.slice pa zu.length pc)).set 4 (.slice ta zy.length tc)
 obtain ⟨k0, k1, k2, k3, k4⟩ := K.a5
 have hUR := (aba (S := fun k => k = w.heap.size + 1) (aba (S := fun k => k = w.heap.size + 1) (aba (S := fun k => k = w.heap.size + 1) (aba (S := fun k => k = w.heap.size + 1) (aba (S := fun k => k = w.heap.size + 1) (Upd.refl (fun k => k = w.heap.size + 1) (w5.setCell ⟨m, 2, none⟩ (.slice (some ⟨g, 0, none⟩) (zk.length - 1) bc))) (w.heap.size + 1) 0 (.int .u32 yf) rfl) (w.heap.size + 1) 1 (.string yg) rfl) (w.heap.size + 1) 2 (.string yb) rfl) (w.heap.size + 1) 3 (.slice pa zu.length pc) rfl) (w.heap.size + 1) 4 (.slice ta zy.length tc) rfl)
 refine bodyPost_ret (by simp [results, Tryz.results100, go_sem, k0, k1, k2, k3, k4]; rfl) rfl ?_
 have hUm : Upd (fun k => k = m) w5 (w5.setCell ⟨m, 2, none⟩ (.slice (some ⟨g, 0, none⟩) (zk.length - 1) bc)) := Upd.set (S := fun k => k = m) rfl _
 have hUf := ((Upd.of_below (S := fun k => k = g ∨ k = m) hB3).trans (hU5.mono (T := fun k => k = g ∨ k = m) (fun k e _ => .inl e)) (fun k e _ => e)).trans (hUm.mono (T := fun k => k = g ∨ k = m) (fun k e _ => .inr e)) (fun k e _ => e)
 have hUt := (hUf.trans hUR (fun k e hk => by have e : k = w.heap.size + 1 := e; omega)).mono (T := fun k => Value.ownBlock (.slice (some ⟨g, 0, none⟩) zk.length bc) = some k ∨ k = m) (fun k e _ => by
  rcases e with e | e
  ·exact .inl (by rw [e]; rfl)
  ·exact .inr e)
 have hgk : ∀ k, Value.ownBlock (.slice (some ⟨g, 0, none⟩) (zk.length - 1) bc) = some k → g = k := fun k e => by simpa [Value.ownBlock] using e
 have hOm : Own B 62 5 aa7 (w5.setCell ⟨m, 2, none⟩ (.slice (some ⟨g, 0, none⟩) (zk.length - 1) bc)) (.slice (some ⟨g, 0, none⟩) (zk.length - 1) bc) (zk.eraseIdx i) := hO5.other _ _ (fun k hk e => hgm ((hgk k hk).trans e))
 have hOf := hOm.upd hUR (fun k hk e => by have h1 := hgk k hk; have e : k = w.heap.size + 1 := e; omega)
 have hAf := (A5.set 2 (.slice (some ⟨g, 0, none⟩) (zk.length - 1) bc)).upd hUR (fun e => by have e : m = w.heap.size + 1 := e; omega)
 have hd := hMh.out.delB hil hOf hAf hUt (fun k e => e)
 have hxe : zk[i] = BrT.mk (xf, xg, xb) (.slice pa zu.length pc) (.slice ta zy.length tc) zu zy := by
  have h1 := hxh.out; have h2 := hixh.out; rw [h1] at h2; rw [h1]; have h2 : (yf, yg, yb) = (xf, xg, xb) := h2; rw [h2]
 have hxy : (xf, xg, xb) = (yf, yg, yb) := by
  have h1 := hxh.out; have h2 := hixh.out; rw [h1] at h2; exact h2.symm
 rw [hxe] at hd
 exact ⟨yf, yg, yb, pa, pc, ta, tc, zu, zy, some ⟨g, 0, none⟩, zk.length - 1, bc, by rw [List.getElem?_eq_getElem hil, hxe], hxy, rfl, hd.1, hd.2, hUt, fun k e => e⟩
theorem an2 {s : Rf} : ∀ {l : List Rf} {qs : List Qu}, hasM qs s = true → hasM (l.foldl ao1 qs) s = true
 | [], _, h => h
 | r :: l, qs, h => an2 (l := l) (axf h)
theorem axs {nx : Int} {qv bv hv : Value} {qs : List QuT} {zk : List BrT} {hs : List He} {m1 m2 : Nat} {i : Nat} (hM : Mut (StT.mk nx qv bv hv (aeu qs m1 m2) zk hs).mv i) : Mut (StT.mk nx qv bv hv qs zk hs).mv i := by
 have e : (aeu qs m1 m2).map QuT.mv = qs.map QuT.mv := by
  unfold aeu; split
  ·rename_i h1
   split
   ·exact adk h1 rfl
   ·rfl
  ·rfl
 unfold StT.mv at hM ⊢
 dsimp only at hM ⊢
 rwa [e] at hM
theorem axt (yf : Int) (yg yb : ByteArray) (pa : Option Addr) (pn pc : Nat) (ta : Option Addr) (tn tc : Nat) (w : World) : (Instr.field 62 (.agg #[.int .u32 yf, .string yg, .string yb, .slice pa pn pc, .slice ta tn tc]) 2).run prog w = .ok (.slice ta tn tc) w := by kernel_rfl
def bea (B m : Nat) (S : Nat → Prop) (w w' : World) (r : Ending) (nx : Int) (qs : List QuT) (zk : List BrT) (hs : List He) (i : Nat) : Prop :=
 ∃ (b : BrT) (t' : StT), zk[i]? = some b ∧ r = .returned (.tuple #[]) ∧ MkS B m (.slice none 0 0) w' t' ∧ t'.next = nx ∧ t'.qs.map QuT.q = b.zy.foldl ao1 (qs.map QuT.q) ∧ t'.zk = zk.eraseIdx i ∧ t'.hs = hs ∧ Upd S w w'
theorem auw (w : World) (B m : Nat) (nx : Int) (qa : Option Addr) (qc : Nat) (ba : Option Addr) (bc : Nat) (ha : Option Addr) (hc : Nat) (qs : List QuT) (zk : List BrT) (hs : List He) (ek : Int) (en : ByteArray) (ei : Int) (xf : Int) (xg xb : ByteArray) (pa : Option Addr) (pn pc : Nat) (ta : Option Addr) (tn tc : Nat) (hM : MkS B m (.slice none 0 0) w (StT.mk nx (.slice qa qs.length qc) (.slice ba zk.length bc) (.slice ha hs.length hc) qs zk hs)) (hBw : B ≤ w.heap.size) (hr : RisK aav BrT.x zk) (hok : QsOk qs) (hL : zk.length ≤ 1000000) (hT : ∀ b ∈ zk, ∀ r ∈ b.zy, hasM (qs.map QuT.q) r = true) (hTl : ∀ b ∈ zk, b.zy.length ≤ 1000000) :
 Calls prog 35 #[.pointer (some ⟨m, 0, none⟩), .agg #[.int .u8 ek, .string en, .int .u64 ei, .int .u32 xf, .string xg, .string xb, .slice pa pn pc, .slice ta tn tc]] w fun r w' => if acv aav BrT.x zk (xf, xg, xb) = true then bea B m (Sto m (StT.mk nx (.slice qa qs.length qc) (.slice ba zk.length bc) (.slice ha hs.length hc) qs zk hs)) w w' r nx qs zk hs (lbK aav BrT.x zk (xf, xg, xb)) else r = .panicked [{ v := .iface 41 (.int .i64 7), recovered := false }] ∧ Below w.heap.size w w' := by
 have hE0 := (qz w.heap.size w).alloc (qj _) (.cells #[.int .u8 ek, .string en, .int .u64 ei, .int .u32 xf, .string xg, .string xb, .slice pa pn pc, .slice ta tn tc] 34)
 have E0 := Blk.new w [.int .u8 ek, .string en, .int .u64 ei, .int .u32 xf, .string xg, .string xb, .slice pa pn pc, .slice ta tn tc] 34
 have hlv := alv (w.alloc (.cells #[.int .u8 ek, .string en, .int .u64 ei, .int .u32 xf, .string xg, .string xb, .slice pa pn pc, .slice ta tn tc] 34)) B m nx qa qc ba bc ha hc qs zk hs xf xg xb (hM.pure hE0) (jk hBw hE0.size) hr hL
 obtain ⟨i, hi⟩ := zz (lbK aav BrT.x zk (xf, xg, xb))
 obtain ⟨b, hb0⟩ := zz (acv aav BrT.x zk (xf, xg, xb))
 rw [hi, hb0] at hlv ⊢
 obtain ⟨S0, hS0⟩ := zj (Sto m (StT.mk nx (.slice qa qs.length qc) (.slice ba zk.length bc) (.slice ha hs.length hc) qs zk hs))
 rw [← hS0]
 have hS0h := qq hS0
 clear hS0
 clear hi hb0 hr hM
 have hokh := qq hok; have hTh := qq hT; have hTlh := qq hTl
 clear hok hT hTl
 have e3 := E0.at 3 rfl; have e4 := E0.at 4 rfl; have e5 := E0.at 5 rfl
 cases b
 ·simp only [Bool.false_eq_true, if_false] at hlv
  have hlvh := qq hlv; clear hlv; go_enter func35, ntmps35; go_wp2_with (go_at_call 100; (with_reducible refine hlvh.out.mono ?_); rintro e w2 ⟨rfl, hB2⟩; have hF := hE0.trans (hB2.mono hE0.size)); exact ⟨rfl, rfl, hF⟩
 simp only [if_true] at hlv
 have hlvh := qq hlv
 clear hlv
 go_enter func35, ntmps35
 go_wp2_with (go_at_call 100; (with_reducible refine hlvh.out.mono ?_); rintro e w2 ⟨yf, yg, yb, pa, pc, ta, tc, zu, zy, ra, rn, rc, hbi, hxx, rfl, hM2, hX2, hU2, hrb⟩; have hrb := qq hrb; have hxx := qq hxx; have hbi := qq hbi; have hX2 := qq hX2; have hM2 := qq hM2; have hU2 := qq (hU2.mono (T := S0) (fun k e _ => by rw [hS0h.out]; rcases e with e | e; exact .inr (aab.2 (.inr (aab.2 (.inl e)))); exact .inl e)); have hfd := fun (v : World) => axt yf yg yb pa zu.length pc ta zy.length tc v)
 clear e3 e4 e5 hlvh E0 hfd
 have hil : i < zk.length := by
  rcases Nat.lt_or_ge i zk.length with h | h
  ·exact h
  ·have := hbi.out; rw [List.getElem?_eq_none h] at this; cases this
 have hbe := qq (show zk[i] = BrT.mk (xf, xg, xb) (.slice pa zu.length pc) (.slice ta zy.length tc) zu zy from by have := hbi.out; rw [List.getElem?_eq_getElem hil] at this; exact Option.some.inj this)
 have hTk := qq (show ∀ r ∈ zy, hasM (qs.map QuT.q) r = true from fun r hr => hTh.out _ (qy hil) r (by rw [hbe.out]; exact hr))
 have htl : zy.length ≤ 1000000 := by have := hTlh.out _ (qy hil); rw [hbe.out] at this; exact this
 have hti : (zy.length : Int) ≤ 1000000 := by omega
 go_loopw [5, 6, 7, 8, 15] (fun s5 s6 s7 s8 s15 wr => ∃ (k : Nat) (Q : List QuT), k ≤ zy.length ∧ s15 = .int .i64 k ∧ MkS B m (.slice pa zu.length pc) wr (StT.mk nx (.slice qa qs.length qc) (.slice ra rn rc) (.slice ha hs.length hc) Q (zk.eraseIdx i) hs) ∧ Hid (Q.map QuT.q = (zy.take k).foldl ao1 (qs.map QuT.q)) ∧ Hid (QsOk Q) ∧ Q.length = qs.length ∧ Own B 68 2 abc wr (.slice ta zy.length tc) zy ∧ Hid (∀ j, Mut (StT.mk nx (.slice qa qs.length qc) (.slice ra rn rc) (.slice ha hs.length hc) Q (zk.eraseIdx i) hs).mv j → S0 j) ∧ Upd S0 w2 wr) (fun s5 s6 s7 s8 s15 _ => zy.length - (intOf s15).toNat)
 case atStart => exact ⟨0, qs, Nat.zero_le _, rfl, hM2.out, qq rfl, hokh, rfl, hX2.out.tk, qq (fun j hM => by rw [hS0h.out]; exact .inr (auv hrb.out hM)), Upd.refl _ _⟩
 case round =>
  obtain ⟨k, Q, hk, rfl, M, hQ, hQk, hQl, O, hMu, hU⟩ := hrel; have hQlh := qq hQl; clear hQl; by_cases hkt : k < zy.length
  ·have hkti : (k : Int) < (zy.length : Int) := by omega
   obtain ⟨g, rfl, hg⟩ := abr O hkt; obtain ⟨q, id, hx, c0, c1⟩ := ado (O.slc aa9) hkt; simp only [Nat.zero_add] at c0 c1; obtain ⟨mp, hmp⟩ := zz (aqg Q ⟨q, id⟩); obtain ⟨m1, m2, mh⟩ := mp
   have hmh : mh = true := by
    have h1 := aqn (qs := Q) (r := ⟨q, id⟩) hQk.out (by rw [hQ.out]; exact an2 (hTk.out _ (by rw [← hx]; exact qy hkt))); rw [hmp] at h1; exact h1
   subst hmh; obtain ⟨h1, h2, hn, hid⟩ := aun hQk.out hmp; have hma := fun (v : World) (h : Below wr.heap.size wr v) => ag6 v nx qa qc ra rn rc ha hs.length hc Q _ q id (by rw [hQlh.out]; exact (M.pure h).rd.qs) hQk.out
   rw [hmp, hQlh.out] at hma; dsimp only at hma; have hmah := qq hma; have hxh := qq hx; have hnh := qq hn; have hidh := qq hid; clear hma hx hmp hn hid; go_upto_region 4 with fail; have hAl := (qz wr.heap.size wr).alloc (qj _) (.cells #[.string q, .int .u64 id] 68); have E1 := Blk.new wr [.string q, .int .u64 id] 68; generalize wr.heap.size = nb at E1 ⊢; generalize wr.alloc (.cells #[.string q, .int .u64 id] 68) = u at E1 hAl ⊢; clear c0 c1; have A0 : Blk u m [.int .u64 nx, .slice qa qs.length qc, .slice ra rn rc, .slice ha hs.length hc] := (M.pure hAl).a.blk; have hb := aan (qz u.heap.size u); refine wp_region_held_drew (S := fun v => Below u.heap.size u v) (by kernel_rfl) hb (fun zg => ?_); refine tkH 0 zg ?_; refine tkH 1 zg ?_; refine tkH 2 zg ?_; refine tkF 3 zg ?_ (fun v hSw => (A0.pure hSw).a4); refine tkF 4 zg ?_ (fun v hSw => (E1.pure hSw).a2); refine aai 5 rfl (fun Kq hKq => ?_); go_simp
   (go_at_call 101; (with_reducible refine (hmah.out _ (hAl.trans (hb.mono hAl.size))).mono ?_); rintro e w3 ⟨rfl, hB2⟩)
   have hb : Below u.heap.size u w3 := hb.trans (hB2.mono hb.size); refine hKq.out _ _ hb (fun zg => ?_); clear hKq Kq; (try simp only [Act.put, lsT, lsZ, lsS]); refine tkH 6 zg ?_; refine tkH 7 zg ?_; refine tkH 8 zg ?_; refine tkH 9 zg ?_; refine tkH 10 zg ?_; refine tkH 11 zg ?_; refine tkH 12 zg ?_; refine wpAnyH_done (by kernel_rfl) ?_ _; have hB3 := hAl.trans (hb.mono hAl.size); have M3 := M.pure hB3; have A3 : Blk w3 m [.int .u64 nx, .slice qa qs.length qc, .slice ra rn rc, .slice ha hs.length hc] := M3.a.blk; have hq1 : m1 < Q.length := h1; obtain ⟨gq, rfl, hgq⟩ := abr M3.q h1; have hmm := M3.mm _ (qy h1); obtain ⟨ma, mc, hmv, -⟩ : ∃ a c, Q[m1].mv = .slice a Q[m1].zw.length c ∧ Q[m1].zw.length ≤ maxLen := (hmm.slc aac).len
   obtain ⟨gm, hgm, -⟩ := abr (hmv ▸ hmm) h2; subst hgm; have hmq : m1 < qs.length := by rw [← hQlh.out]; exact h1
   have hm1 : (m1 : Int) < (qs.length : Int) := by omega
   have hml : Q[m1].zw.length ≤ 1000000 := hQk.out.lm _ (qy h1); obtain ⟨ml, hmle⟩ := zj (Q[m1].zw.length); have hm2 : (m2 : Int) < (ml : Int) := by rw [hmle]; exact Int.ofNat_lt.2 h2
   have hm20 : (0 : Int) ≤ (m2 : Int) := by omega
   have hm10 : (0 : Int) ≤ (m1 : Int) := by omega
   have d2 : w3.cell? ⟨gq, m1 * 3 + 2, none⟩ = some (.slice (some ⟨gm, 0, none⟩) ml mc) := M3.q.cell aaf m1 h1 2 _ (by show some (one Q[m1].mv) = _; rw [hmv, hmle]; rfl); have g3 : w3.cell? ⟨gm, m2 * 11 + 1 + 2, none⟩ = some (.bool Q[m1].zw[m2].pr.red) := Own.cell aac (hmv ▸ hmm) m2 h2 3 _ rfl; obtain ⟨rd, hrd⟩ := zz (Q[m1].zw[m2].pr.red); rw [hrd] at g3; have f3 : w3.frozen? ⟨gm, m2 * 11 + 1 + 2, none⟩ = false := Own.frozen (hmv ▸ hmm) (m2 * 11 + 3); have a1 := A3.at 1 rfl; have M4 := M3.mark h1 hmv h2; rw [show Q.set m1 _ = aeu Q m1 m2 from (ag7 h1 h2).symm] at M4; have hred := qq (az3 (r := ⟨q, id⟩) hQk.out h1 h2 hnh.out hidh.out); have hQk2 := qq (hQk.out.marked h1 h2); have hgB : B ≤ gm := hmm.ge (by rw [hmv]; rfl); have O4 := (O.pure hB3).upd (Upd.set (S := fun k => k = gm) (p := ⟨gm, m2 * 11 + 1 + 2, none⟩) rfl (.bool true)) (fun k hk e => aaz (O.pure hB3) hmm (by decide) hk (by rw [hmv, show k = gm from e]; rfl)); have hU4 := (hU.trans (Upd.of_below (S := S0) hB3) (fun _ e _ => e)).trans (Upd.set (S := fun k => k = gm) (p := ⟨gm, m2 * 11 + 1 + 2, none⟩) rfl (.bool true)) (fun k e _ => hMu.out k (by rw [show k = gm from e]; unfold StT.mv; simp only [aab, abd]; exact .inr (.inr (.inr (.inl ⟨_, jw (qy h1), by rw [hmv]; rfl⟩))))); have hMu4 := qq (fun j (hM : Mut (StT.mk nx (.slice (some ⟨gq, 0, none⟩) qs.length qc) (.slice ra rn rc) (.slice ha hs.length hc) (aeu Q m1 m2) (zk.eraseIdx i) hs).mv j) => hMu.out j (axs hM))
   have hQ4 := qq (show (aeu Q m1 m2).map QuT.q = (zy.take (k + 1)).foldl ao1 (qs.map QuT.q) by
    rw [jx hkt, List.foldl_append, ← hQ.out, hxh.out]
    exact hred.out.symm)
   have hQl4 : (aeu Q m1 m2).length = qs.length := (ant _ _ _).trans hQlh.out; have M4h := qq M4; clear hb zg hB2 M4 hidh hnh hrd hmm hmv hmle hQl4 h2; go_wp2; go_roundw
   case rel => exact ⟨k + 1, aeu Q m1 m2, by omega, by go_num, M4h.out, hQ4, hQk2, (ant _ _ _).trans hQlh.out, O4, hMu4, hU4⟩
   case measure => simp [intOf]; omega
  ·obtain rfl : k = zy.length := by omega
   rw [js] at hQ; go_wp2; go_end0; exact ⟨_, (StT.mk nx (.slice qa qs.length qc) (.slice ra rn rc) (.slice ha hs.length hc) Q (zk.eraseIdx i) hs), hbi.out, rfl, M.noEx, rfl, hQ.out, rfl, rfl, (((Upd.of_below hE0).trans hU2.out (fun _ e _ => e)).trans hU (fun _ e _ => e))⟩
def ag9 (B m : Nat) (w : World) (q : St × Int) (r : Ending) (w' : World) : Prop :=
 (if q.2 = 0 then r = .returned (.tuple #[]) ∧ ∃ t' : StT, t'.s = q.1 ∧ MkS B m (.slice none 0 0) w' t' else r = .panicked [{ v := .iface 41 (.int .i64 q.2), recovered := false }]) ∧ Upd (fun i => B ≤ i) w w'
def ApF (S : Nat → Prop) (B m : Nat) (w : World) (q : St × Int) (r : Ending) (w' : World) : Prop :=
 (if q.2 = 0 then r = .returned (.tuple #[]) ∧ ∃ t' : StT, t'.s = q.1 ∧ MkS B m (.slice none 0 0) w' t' else r = .panicked [{ v := .iface 41 (.int .i64 q.2), recovered := false }]) ∧ Upd S w w'
theorem ApF.ap {B m : Nat} {ex : Value} {w0 w w' : World} {t : StT} {q : St × Int} {r : Ending} (hM : MkS B m ex w0 t) (h : ApF (Sto m t) B m w q r w') : ag9 B m w q r w' := ⟨h.1, h.2.mono (fun i e _ => hM.stoB e)⟩
theorem aqs {S : Nat → Prop} {B m : Nat} {w w' : World} {f : Int} (hf : f ≠ 0) (hU : Upd S w w') : ApF S B m w (no f) (.panicked [{ v := .iface 41 (.int .i64 f), recovered := false }]) w' :=
 ⟨by rw [qk (show ¬ (no f).2 = 0 from hf)]; rfl, hU⟩
theorem aym {S : Nat → Prop} {B m : Nat} {w w' : World} {s : St} {t' : StT} (hs : t'.s = s) (hM : MkS B m (.slice none 0 0) w' t') (hU : Upd S w w') : ApF S B m w (s, 0) (.returned (.tuple #[])) w' :=
 ⟨by rw [qw rfl]; exact ⟨rfl, t', hs, hM⟩, hU⟩
theorem adt {B m : Nat} {w w' : World} {f : Int} (hf : f ≠ 0) (hB : Below w.heap.size w w') : ag9 B m w (no f) (.panicked [{ v := .iface 41 (.int .i64 f), recovered := false }]) w' :=
 ⟨by rw [qk (show ¬ (no f).2 = 0 from hf)]; rfl, Upd.of_below hB⟩
theorem aip {B m : Nat} {w w' : World} {s : St} {t' : StT} (hs : t'.s = s) (hM : MkS B m (.slice none 0 0) w' t') (hU : Upd (fun i => B ≤ i) w w') : ag9 B m w (s, 0) (.returned (.tuple #[])) w' :=
 ⟨by rw [qw rfl]; exact ⟨rfl, t', hs, hM⟩, hU⟩
theorem aux (w : World) (B m : Nat) (nx : Int) (qa : Option Addr) (qc : Nat) (ba : Option Addr) (bc : Nat) (ha : Option Addr) (hc : Nat) (qs : List QuT) (zk : List BrT) (hs : List He) (ek : Int) (en : ByteArray) (ei : Int) (xf : Int) (xg xb : ByteArray) (pa : Option Addr) (pn pc : Nat) (ta : Option Addr) (tn tc : Nat) (e : En) (hM : MkS B m (.slice none 0 0) w (StT.mk nx (.slice qa qs.length qc) (.slice ba zk.length bc) (.slice ha hs.length hc) qs zk hs)) (hBw : B ≤ w.heap.size) (he : e.name = en) (hi : e.n = ei) (hok : qsB nx (qs.map QuT.q) = true) (hL : qs.length ≤ 1000000) (hn : 0 ≤ ei ∧ ei < 18446744073709551616) :
 Calls prog 30 #[.pointer (some ⟨m, 0, none⟩), .agg #[.int .u8 ek, .string en, .int .u64 ei, .int .u32 xf, .string xg, .string xb, .slice pa pn pc, .slice ta tn tc]] w (ag9 B m w ((StT.mk nx (.slice qa qs.length qc) (.slice ba zk.length bc) (.slice ha hs.length hc) qs zk hs).s.queue e)) := by
 refine (arw w B m (.slice none 0 0) nx qa qc ba bc ha hc qs zk hs ek en ei xf xg xb pa pn pc ta tn tc hM hBw (awq hok) hL hn).mono ?_
 intro r w' h
 have hs : (StT.mk nx (.slice qa qs.length qc) (.slice ba zk.length bc) (.slice ha hs.length hc) qs zk hs).s.queue e = if acv abf QuT.name qs en = true then no 8 else ({ (StT.mk nx (.slice qa qs.length qc) (.slice ba zk.length bc) (.slice ha hs.length hc) qs zk hs).s with qs := abj (qs.map QuT.q) (lbK abf Qu.name (qs.map QuT.q) en) ⟨en, ei, []⟩ }, 0) := by
  unfold St.queue; rw [he, hi, anm]; rfl
 rw [hs]
 by_cases hb : acv abf QuT.name qs en = true
 ·rw [qw hb] at h ⊢
  obtain ⟨rfl, hB⟩ := h; exact adt (by decide) hB
 ·rw [qk hb] at h ⊢
  obtain ⟨rfl, ⟨ra, rn, rc, hM'⟩, hU⟩ := h; refine aip ?_ hM' hU; unfold StT.s; dsimp only; rw [ann, atz]; rfl
theorem axu (w : World) (B m : Nat) (nx : Int) (qa : Option Addr) (qc : Nat) (ba : Option Addr) (bc : Nat) (ha : Option Addr) (hc : Nat) (qs : List QuT) (zk : List BrT) (hs : List He) (ek : Int) (en : ByteArray) (ei : Int) (xf : Int) (xg xb : ByteArray) (pa : Option Addr) (pn pc : Nat) (ta : Option Addr) (tn tc : Nat) (e : En) (hM : MkS B m (.slice none 0 0) w (StT.mk nx (.slice qa qs.length qc) (.slice ba zk.length bc) (.slice ha hs.length hc) qs zk hs)) (hBw : B ≤ w.heap.size) (he : e.name = en) (hok : qsB nx (qs.map QuT.q) = true) (hL : qs.length ≤ 1000000) (hLb : zk.length ≤ 1000000) :
 Calls prog 31 #[.pointer (some ⟨m, 0, none⟩), .agg #[.int .u8 ek, .string en, .int .u64 ei, .int .u32 xf, .string xg, .string xb, .slice pa pn pc, .slice ta tn tc]] w (ag9 B m w ((StT.mk nx (.slice qa qs.length qc) (.slice ba zk.length bc) (.slice ha hs.length hc) qs zk hs).s.drop e)) := by
 refine (auu w B m (.slice none 0 0) nx qa qc ba bc ha hc qs zk hs ek en ei xf xg xb pa pn pc ta tn tc hM hBw (awq hok) hL hLb).mono ?_
 intro r w' h
 have hu : (StT.mk nx (.slice qa qs.length qc) (.slice ba zk.length bc) (.slice ha hs.length hc) qs zk hs).s.uses en = zk.any (anz en) := by
  show (zk.map BrT.b).any _ = _
  rw [List.any_map]; congr 1; funext b; show ((b.zu.map PtT.p).any _ || _) = _
  rw [List.any_map]; rfl
 have hs' : (StT.mk nx (.slice qa qs.length qc) (.slice ba zk.length bc) (.slice ha hs.length hc) qs zk hs).s.drop e = if acv abf QuT.name qs en = true then (if zk.any (anz en) = true then no 9 else ({ (StT.mk nx (.slice qa qs.length qc) (.slice ba zk.length bc) (.slice ha hs.length hc) qs zk hs).s with qs := (qs.map QuT.q).filter (fun q => decide (q.name ≠ en)) }, 0)) else no 7 := by
  unfold St.drop; rw [he, hu]; show (if ad0 (qs.map QuT.q) en = false then _ else _) = _
  rw [← anm]; cases acv abf QuT.name qs en <;> rfl
 rw [hs']
 by_cases hb : acv abf QuT.name qs en = true
 ·rw [qw hb] at h ⊢
  by_cases hc : zk.any (anz en) = true
  ·rw [qw hc] at h ⊢
   obtain ⟨rfl, hB⟩ := h; exact adt (by decide) hB
  ·rw [qk hc] at h ⊢
   obtain ⟨rfl, ⟨ra, rn, rc, hM'⟩, hU⟩ := h; obtain ⟨hl, hx⟩ := aec cmpB_ok (awq hok) hb; refine aip ?_ hM' hU; unfold StT.s; dsimp only; rw [at0, ← ajp cmpB_ok (ad6 (c := abf) (k := Qu.name) (g := QuT.q) |>.2 (awq hok)) (by simpa using hl) (x := en) (by rw [zq]; exact hx)]
 ·rw [qk hb] at h ⊢
  obtain ⟨rfl, hB⟩ := h; exact adt (by decide) hB
theorem aqt {zk : List BrT} {x : Xn} (hr : RisK aav BrT.x zk) {i : Nat} (hi : i < zk.length) (hx : zk[i].x = x) : (zk.map BrT.b).find? (fun b => decide (b.x = x)) = some zk[i].b := by
 rw [List.find?_eq_some_iff_getElem]
 refine ⟨qp hx, i, by simpa using hi, by simp, fun j hj => ?_⟩
 rw [zq]
 have h1 : zk[j].x ≠ x := by rw [← hx]; exact aln abu hr (by omega) hi (by omega)
 show (!decide (zk[j].x = x)) = true
 rw [qg h1]; rfl
theorem auy {zk : List BrT} {x : Xn} (h : ¬ acv aav BrT.x zk x = true) : (zk.map BrT.b).find? (fun b => decide (b.x = x)) = none := by
 rw [List.find?_eq_none]
 intro b hb e
 obtain ⟨t, ht, rfl⟩ := jv.1 hb
 exact h ((adr abu).2 ⟨t, ht, qt e⟩)
theorem alw {zk : List BrT} {x : Xn} (hr : RisK aav BrT.x zk) {i : Nat} (hi : i < zk.length) (hx : zk[i].x = x) : (zk.map BrT.b).filter (fun b => decide (b.x ≠ x)) = (zk.eraseIdx i).map BrT.b := by
 rw [at0, ← ajp abu (ad6 (c := aav) (k := Br.x) (g := BrT.b) |>.2 hr) (by simpa using hi) (x := x) (by rw [zq]; exact hx)]
theorem axv (w : World) (B m : Nat) (nx : Int) (qa : Option Addr) (qc : Nat) (ba : Option Addr) (bc : Nat) (ha : Option Addr) (hc : Nat) (qs : List QuT) (zk : List BrT) (hs : List He) (ek : Int) (en : ByteArray) (ei : Int) (xf : Int) (xg xb : ByteArray) (pa : Option Addr) (pn pc : Nat) (ta : Option Addr) (tn tc : Nat) (e : En) (hM : MkS B m (.slice none 0 0) w (StT.mk nx (.slice qa qs.length qc) (.slice ba zk.length bc) (.slice ha hs.length hc) qs zk hs)) (hBw : B ≤ w.heap.size) (he : e.x = (xf, xg, xb)) (hr : RisK aav BrT.x zk) (hok : QsOk qs) (hL : zk.length ≤ 1000000) (hT : ∀ b ∈ zk, ∀ r ∈ b.zy, hasM (qs.map QuT.q) r = true) (hTl : ∀ b ∈ zk, b.zy.length ≤ 1000000) :
 Calls prog 35 #[.pointer (some ⟨m, 0, none⟩), .agg #[.int .u8 ek, .string en, .int .u64 ei, .int .u32 xf, .string xg, .string xb, .slice pa pn pc, .slice ta tn tc]] w (ApF (Sto m (StT.mk nx (.slice qa qs.length qc) (.slice ba zk.length bc) (.slice ha hs.length hc) qs zk hs)) B m w ((StT.mk nx (.slice qa qs.length qc) (.slice ba zk.length bc) (.slice ha hs.length hc) qs zk hs).s.back e)) := by
 refine (auw w B m nx qa qc ba bc ha hc qs zk hs ek en ei xf xg xb pa pn pc ta tn tc hM hBw hr hok hL hT hTl).mono ?_
 intro r w' h
 by_cases hb : acv aav BrT.x zk (xf, xg, xb) = true
 ·rw [qw hb] at h
  obtain ⟨b, t', hbi, rfl, hM', hn, hq, hbr, hh, hU⟩ := h; obtain ⟨hl, hx⟩ := aec abu hr hb; rw [List.getElem?_eq_getElem hl] at hbi; obtain rfl := Option.some.inj hbi
  have hs' : (StT.mk nx (.slice qa qs.length qc) (.slice ba zk.length bc) (.slice ha hs.length hc) qs zk hs).s.back e = ({ (StT.mk nx (.slice qa qs.length qc) (.slice ba zk.length bc) (.slice ha hs.length hc) qs zk hs).s.without (xf, xg, xb) with qs := zk[lbK aav BrT.x zk (xf, xg, xb)].zy.foldl ao1 (qs.map QuT.q) }, 0) := by
   unfold St.back; rw [he]; show (match (zk.map BrT.b).find? _ with | none => _ | some b => _) = _
   rw [aqt hr hl hx]; rfl
  rw [hs']; refine aym ?_ hM' hU; unfold StT.s St.without; dsimp only; rw [hn, hq, hbr, hh, alw hr hl hx]
 ·rw [qk hb] at h
  obtain ⟨rfl, hB⟩ := h
  have hs' : (StT.mk nx (.slice qa qs.length qc) (.slice ba zk.length bc) (.slice ha hs.length hc) qs zk hs).s.back e = no 7 := by
   unfold St.back; rw [he]; show (match (zk.map BrT.b).find? _ with | none => _ | some b => _) = _
   rw [auy hb]
  rw [hs']; exact aqs (by decide) (Upd.of_below hB)
theorem akd {base : Nat} (w : World) (g cap i j : Nat) (hij1 : j = i + 1) (L : List MsT) (h : Own base 60 11 abl w (.slice (some ⟨g, 0, none⟩) L.length cap) L) (hi : i < L.length) (hL : L.length ≤ 1000000) :
 Calls prog 143 #[.slice (some ⟨g, 0, none⟩) L.length cap, .int .i64 i, .int .i64 j] w fun e w' =>
  e = .returned (.slice (some ⟨g, 0, none⟩) (L.length - 1) cap) ∧ Own base 60 11 abl w' (.slice (some ⟨g, 0, none⟩) (L.length - 1) cap) (L.eraseIdx i) ∧ Upd (· = g) w w' := by
 have mixed : prog.follows .mixedOrders = true := by kernel_rfl
 obtain ⟨i0, hi0, hz0, hz1, hz2⟩ := info_parts aqm
 have hcap : L.length ≤ cap ∧ cap ≤ 9223372036854775807 := by
  exact aew
 have hcell : ∀ t u, (L.flatMap abl)[t]? = some u → w.cell? ⟨g, 0 + t, none⟩ = some u := fun t u hu => by
  exact agn
 have hfr : ∀ t, w.frozen? ⟨g, t, none⟩ = false := fun t => h.frozen t
 obtain ⟨news, hnews⟩ := zj ((L.drop j).flatMap abl)
 have hlen : news.length = (L.length - j) * 11 := by rw [hnews, abp aac]; simp
 have hget : ∀ t, news[t]? = (L.flatMap abl)[j * 11 + t]? := fun t => by rw [hnews, aee aac, List.getElem?_drop]
 obtain ⟨A, hA, hsrc⟩ : ∃ A : Addr, (if cap = j then some (⟨g, 0, none⟩ : Addr) else some ⟨g, j * 11, none⟩) = some A ∧ Hid (∀ t u, news[t]? = some u → w.drew.cell? (A.add t) = some u) := by
  by_cases hc : cap = j
  ·exact agm
  ·refine ⟨⟨g, j * 11, none⟩, by simp [hc], qq (fun t u hu => ?_)⟩
   rw [hget t] at hu; have := hcell _ _ hu; have e : (⟨g, j * 11, none⟩ : Addr).add t = ⟨g, 0 + (j * 11 + t), none⟩ := by unfold Addr.add; split <;> simp_all
   rw [e]; exact this
 have s1 := qq hlen
 have s2 : Hid (∀ u ∈ news, u.oneCell' = true) := qq (by
  intro u hu; rw [hnews] at hu; obtain ⟨x, _, hx⟩ := List.mem_flatMap.1 hu
  exact ag5 x u hx)
 have hfl : (L.flatMap abl).length = L.length * 11 := abp aac L
 have s3 : Hid (∀ t, t < news.length → (w.drew.cell? ⟨g, 0 + i * 11 + t, none⟩).isSome = true ∧ w.drew.frozen? ⟨g, 0 + i * 11 + t, none⟩ = false) := qq (by
  intro t ht; rw [hlen] at ht; have hlt : i * 11 + t < (L.flatMap abl).length := by rw [hfl]; omega
  refine ⟨?_, hfr _⟩; show (w.cell? _).isSome = true
  rw [Nat.add_assoc, hcell _ _ (List.getElem?_eq_getElem hlt)]; rfl)
 obtain ⟨W1, hW1⟩ := zj (w.drew.setCells g (0 + i * 11) news)
 have hown1 : W1.ownsRow base 60 11 (.slice (some ⟨g, 0, none⟩) L.length cap) L.length (abg (L.flatMap abl) (i * 11) news) := by
  have := abh news (i * 11) w.drew _ h; rw [hW1]; simpa using this
 have hsl : (abg (L.flatMap abl) (i * 11) news).length = L.length * 11 := by rw [ab7, hfl]
 have hcl : ∀ ty, (Builtin.clear_ #[49] ty #[.slice (some ⟨g, (i + (L.length - j)) * 11, none⟩) (L.length - (i + (L.length - j))) (cap - (i + (L.length - j)))]).run prog W1 = .ok (.tuple #[]) (W1.setCells g ((i + (L.length - j)) * 11) [.int .u64 0, .string ⟨#[]⟩, .bool false, .bool false, .string ⟨#[]⟩, .int .u8 0, .int .u64 0, .string ⟨#[]⟩, .slice none 0 0, .slice none 0 0, .string ⟨#[]⟩]) := fun ty => by
  refine aev W1 _ 60 ty (.agg #[.int .u64 0, .string ⟨#[]⟩, .bool false, .bool false, .string ⟨#[]⟩, .int .u8 0, .int .u64 0, .string ⟨#[]⟩, .slice none 0 0, .slice none 0 0, .string ⟨#[]⟩]) _ underlying49 (fun w => by kernel_rfl) rfl (by simp [Value.oneCell']) g ((i + (L.length - j)) * 11) _ _ (by omega) (fun t ht => ?_) (fun t ht => ?_)
  ·simp only [jn, List.length_nil] at ht
   have hlt : (i + (L.length - j)) * 11 + t < (abg (L.flatMap abl) (i * 11) news).length := by rw [hsl]; omega
   have := World.ownsRow.cells hown1 (g := g) rfl _ _ (List.getElem?_eq_getElem hlt); have e : (⟨g, 0, none⟩ : Addr).add ((i + (L.length - j)) * 11 + t) = ⟨g, (i + (L.length - j)) * 11 + t, none⟩ := by unfold Addr.add; split <;> simp_all
   rw [← e, this]; rfl
  ·exact agk
 have hW := qq hW1
 have hown1' := qq hown1
 have hnews' := qq hnews
 clear hW1 hown1 hget hnews hlen hcell hfr h hsl hfl
 obtain ⟨hc1, hc2⟩ := hcap
 have hjl : j ≤ L.length := by omega
 have hil : j ≤ cap := by omega
 have hij : i < j := by omega
 have hne : ¬ i = j := by omega
 have hij1' := qq hij1
 clear hij1
 have hic : i ≤ cap := by omega
 go_enter func143, ntmps143
 go_wp2_with fail
 go_region_law (refine step_append_room rfl (.tmp 22) (.tmp 25) 49 rfl 60 i0 11 underlying49 hi0 hz1 g 0 i cap (by simp [Act.eval, Act.put]) A (L.length - j) (cap - j) news (by simp [Act.eval, Act.put]) s1.out hsrc.out s2.out (by omega) s3.out ?_; rw [← hW.out])
 go_wp2
 go_ret
 have e1 : i + (L.length - j) = L.length - 1 := by have := hij1'.out; omega
 rw [e1]
 refine ⟨rfl, ?_, ?_⟩
 ·have h1 := apm (abh [.int .u64 0, .string ⟨#[]⟩, .bool false, .bool false, .string ⟨#[]⟩, .int .u8 0, .int .u64 0, .string ⟨#[]⟩, .slice none 0 0, .slice none 0 0, .string ⟨#[]⟩] ((L.length - 1) * 11) W1 _ hown1'.out) (n' := L.length - 1) (by omega)
  rw [hnews'.out] at h1; have hj := hij1'.out; rw [hj] at h1; rw [ahs aac L i hi _ rfl] at h1; unfold Own; rw [List.length_eraseIdx_of_lt hi]; exact h1
 ·exact agl
theorem akx {base : Nat} (w : World) (g cap i : Nat) (L : List MsT) (h : Own base 60 11 abl w (.slice (some ⟨g, 0, none⟩) L.length cap) L) (hi : i < L.length) (hL : L.length ≤ 1000000) :
 Calls prog 143 #[.slice (some ⟨g, 0, none⟩) L.length cap, .int .i64 i, .int .i64 ((i : Int) + 1)] w fun e w' =>
  e = .returned (.slice (some ⟨g, 0, none⟩) (L.length - 1) cap) ∧ Own base 60 11 abl w' (.slice (some ⟨g, 0, none⟩) (L.length - 1) cap) (L.eraseIdx i) ∧ Upd (· = g) w w' := by
 have := akd w g cap i (i + 1) rfl L h hi hL
 rwa [Int.natCast_add] at this
def beb (B m : Nat) (ex : Value) (t : StT) (w : World) (s : St) (r : Ending) (w' : World) : Prop := r = .returned (.tuple #[]) ∧ (∃ t' : StT, t'.s = s ∧ MkS B m ex w' t') ∧ Upd (Sto m t) w w'
theorem axw {nx : Int} {qv bv hv v : Value} {Q : List QuT} {zk : List BrT} {hs : List He} {m1 m2 : Nat} (h1 : m1 < Q.length) (hvb : ∀ i, v.ownBlock = some i → Q[m1].mv.ownBlock = some i) {i : Nat} (hM : Mut (StT.mk nx qv bv hv (aj3 Q m1 m2 v) zk hs).mv i) : Mut (StT.mk nx qv bv hv Q zk hs).mv i := by
 rw [aio h1] at hM
 unfold StT.mv at hM ⊢
 simp only [aab, abd] at hM ⊢
 rcases hM with e | e | e | e | e
 ·exact .inl e
 ·exact .inr (.inl e)
 ·exact .inr (.inr (.inl e))
 ·obtain ⟨u, hu, e⟩ := e
  obtain ⟨q, hq, rfl⟩ := jv.1 hu; rcases jd hq with hq | rfl
  ·exact .inr (.inr (.inr (.inl ⟨_, jw hq, e⟩)))
  ·exact .inr (.inr (.inr (.inl ⟨_, jw (qy h1), hvb i e⟩)))
 ·exact .inr (.inr (.inr (.inr e)))
theorem an3 (w : World) (B m : Nat) (ex : Value) (nx : Int) (qa : Option Addr) (qc : Nat) (ba : Option Addr) (bc : Nat) (ha : Option Addr) (hc : Nat) (qs : List QuT) (zk : List BrT) (hs : List He) (pa : Option Addr) (pc : Nat) (ta : Option Addr) (tc : Nat) (zu : List PtT) (zy : List Rf) (hM : MkS B m ex w (StT.mk nx (.slice qa qs.length qc) (.slice ba zk.length bc) (.slice ha hs.length hc) qs zk hs)) (hBw : B ≤ w.heap.size) (hok : QsOk qs) (htl : zy.length ≤ 1000000)
 (hts : Slc abc 2 w (.slice ta zy.length tc) zy) (htP : ∀ k, Value.ownBlock (.slice ta zy.length tc) = some k → zy ≠ [] → k ≠ m ∧ ¬ Mut (StT.mk nx (.slice qa qs.length qc) (.slice ba zk.length bc) (.slice ha hs.length hc) qs zk hs).mv k)
 (hT : ∀ k, (h : k < zy.length) → hasM ((zy.take k).foldl ad9 (qs.map QuT.q)) zy[k] = true) (hpl : zu.length ≤ 1000000)
 (hps : Slc aat 12 w (.slice pa zu.length pc) zu) (hpP : ∀ k, Value.ownBlock (.slice pa zu.length pc) = some k → zu ≠ [] → k ≠ m ∧ ¬ Mut (StT.mk nx (.slice qa qs.length qc) (.slice ba zk.length bc) (.slice ha hs.length hc) qs zk hs).mv k) (hpr : ∀ x ∈ zu, Rd (fun i => i ≠ m ∧ ¬ Mut (StT.mk nx (.slice qa qs.length qc) (.slice ba zk.length bc) (.slice ha hs.length hc) qs zk hs).mv i) w x.pr.app)
 (hexl : ∀ i, ex.ownBlock = some i → i < w.heap.size) (hpq : ∀ x ∈ zu, ad0 (qs.map QuT.q) x.q = true ∧ x.p.pr.smallB = true ∧ 0 ≤ x.id ∧ x.id ≤ 1099511627776) (hTb : ∀ u, Upd (fun i => B ≤ i) w u → Tb u) :
 Calls prog 97 #[.pointer (some ⟨m, 0, none⟩), .slice pa zu.length pc, .slice ta zy.length tc] w (beb B m ex (StT.mk nx (.slice qa qs.length qc) (.slice ba zk.length bc) (.slice ha hs.length hc) qs zk hs) w ((StT.mk nx (.slice qa qs.length qc) (.slice ba zk.length bc) (.slice ha hs.length hc) qs zk hs).s.work (zu.map PtT.p) zy)) := by
 have hpi : (zu.length : Int) ≤ 1000000 := by omega
 obtain ⟨S1, hS1⟩ : ∃ S1 : St, { (StT.mk nx (.slice qa qs.length qc) (.slice ba zk.length bc) (.slice ha hs.length hc) qs zk hs).s with qs := zy.foldl ad9 (qs.map QuT.q) } = S1 := ⟨_, rfl⟩
 have hwk : (StT.mk nx (.slice qa qs.length qc) (.slice ba zk.length bc) (.slice ha hs.length hc) qs zk hs).s.work (zu.map PtT.p) zy = (zu.map PtT.p).foldl aod S1 := by rw [← hS1]; rfl
 rw [hwk]
 have hS1h := qq hS1; have hpsh := qq hps; have hpPh := qq hpP; have hprh := qq hpr; have hpqh := qq hpq; have hTbh := qq hTb; have hrqh := qq hok.rq
 clear hwk hS1 hps hpP hpr hpq hTb
 have hti : (zy.length : Int) ≤ 1000000 := by omega
 obtain ⟨S0, hS0⟩ : ∃ S0 : Nat → Prop, S0 = fun i => i = m ∨ Mut (StT.mk nx (.slice qa qs.length qc) (.slice ba zk.length bc) (.slice ha hs.length hc) qs zk hs).mv i := ⟨_, rfl⟩
 have hMh := qq hM; have hokh := qq hok; have hTh := qq hT; have htsh := qq hts; have htPh := qq htP; have hS0h := qq hS0
 clear hM hok hT hts htP hS0
 go_enter func97, ntmps97
 go_wp2
 go_loopw [7, 8, 9, 10, 17] (fun s7 s8 s9 s10 s17 wr => ∃ (k : Nat) (Q : List QuT), k ≤ zy.length ∧ s17 = .int .i64 k ∧ MkS B m ex wr (StT.mk nx (.slice qa qs.length qc) (.slice ba zk.length bc) (.slice ha hs.length hc) Q zk hs) ∧ Hid (Q.map QuT.q = (zy.take k).foldl ad9 (qs.map QuT.q)) ∧ Hid (QsOk Q) ∧ Q.length = qs.length ∧ Hid (∀ i, Mut (StT.mk nx (.slice qa qs.length qc) (.slice ba zk.length bc) (.slice ha hs.length hc) Q zk hs).mv i → i < w.heap.size → Mut (StT.mk nx (.slice qa qs.length qc) (.slice ba zk.length bc) (.slice ha hs.length hc) qs zk hs).mv i) ∧ Upd S0 w wr) (fun s7 s8 s9 s10 s17 _ => zy.length - (intOf s17).toNat)
 case atStart => exact ⟨0, qs, Nat.zero_le _, rfl, hMh.out, qq rfl, hokh, rfl, qq (fun i h _ => h), Upd.refl _ _⟩
 case round =>
  obtain ⟨k, Q, hk, rfl, M, hQ, hQk, hQl, hMu, hU⟩ := hrel; have hQlh := qq hQl; clear hQl; by_cases hkt : k < zy.length
  ·have hkti : (k : Int) < (zy.length : Int) := by omega
   have hSl : Slc abc 2 wr (.slice ta zy.length tc) zy := htsh.out.updL hU (fun hn b e hs => by
    obtain ⟨h1, h2⟩ := htPh.out b e hn; rw [hS0h.out] at hs; rcases hs with e | e
    ·exact h1 e
    ·exact h2 e)
   obtain ⟨g, off, rfl⟩ := hSl.addrB hkt; obtain ⟨q, id, hx, c0, c1⟩ := ado hSl hkt; obtain ⟨mp, hmp⟩ := zz (aqg Q ⟨q, id⟩); obtain ⟨m1, m2, mh⟩ := mp
   have hmh : mh = true := by
    have h1 := aqn (qs := Q) (r := ⟨q, id⟩) hQk.out (by rw [hQ.out, ← hx]; exact hTh.out k hkt); rw [hmp] at h1; exact h1
   subst hmh; obtain ⟨h1, h2, hn, hid⟩ := aun hQk.out hmp; have hma := fun (v : World) (h : Below wr.heap.size wr v) => ag6 v nx qa qc ba zk.length bc ha hs.length hc Q _ q id (by rw [hQlh.out]; exact (M.pure h).rd.qs) hQk.out
   rw [hmp, hQlh.out] at hma; dsimp only at hma; have hmah := qq hma; have hxh := qq hx; have hnh := qq hn; have hidh := qq hid; clear hma hx hmp hn hid hSl; go_upto_region 3 with fail; have hAl := (qz wr.heap.size wr).alloc (qj _) (.cells #[.string q, .int .u64 id] 68); have E1 := Blk.new wr [.string q, .int .u64 id] 68; generalize wr.heap.size = nb at E1 ⊢; generalize wr.alloc (.cells #[.string q, .int .u64 id] 68) = u at E1 hAl ⊢; clear c0 c1; have A0 : Blk u m [.int .u64 nx, .slice qa qs.length qc, .slice ba zk.length bc, .slice ha hs.length hc] := (M.pure hAl).a.blk; have hb := aan (qz u.heap.size u); refine wp_region_held_drew (S := fun v => Below u.heap.size u v) (by kernel_rfl) hb (fun zg => ?_); refine tkH 0 zg ?_; refine tkH 1 zg ?_; refine tkH 2 zg ?_; refine tkF 3 zg ?_ (fun v hSw => (A0.pure hSw).a4); refine tkF 4 zg ?_ (fun v hSw => (E1.pure hSw).a2); refine aai 5 rfl (fun Kq hKq => ?_); go_simp
   (go_at_call 101; (with_reducible refine (hmah.out _ (hAl.trans (hb.mono hAl.size))).mono ?_); rintro e w3 ⟨rfl, hB2⟩)
   have hb : Below u.heap.size u w3 := hb.trans (hB2.mono hb.size); refine hKq.out _ _ hb (fun zg => ?_); clear hKq Kq; (try simp only [Act.put, lsT, lsZ, lsS]); refine tkH 6 zg ?_; refine tkH 7 zg ?_; refine tkH 8 zg ?_; refine tkH 9 zg ?_; refine tkH 10 zg ?_; refine tkH 11 zg ?_; refine tkH 12 zg ?_; refine wpAnyH_done (by kernel_rfl) ?_ _; have hB3 := hAl.trans (hb.mono hAl.size); have M3 := M.pure hB3; have A3 : Blk w3 m [.int .u64 nx, .slice qa qs.length qc, .slice ba zk.length bc, .slice ha hs.length hc] := M3.a.blk; obtain ⟨gq, rfl, hgq⟩ := abr M3.q h1; have hmm := M3.mm _ (qy h1); obtain ⟨ma, mc, hmv, -⟩ : ∃ a c, Q[m1].mv = .slice a Q[m1].zw.length c ∧ Q[m1].zw.length ≤ maxLen := (hmm.slc aac).len
   obtain ⟨gm, hgm, -⟩ := abr (hmv ▸ hmm) h2; subst hgm; have hmq : m1 < qs.length := by rw [← hQlh.out]; exact h1
   have hm1 : (m1 : Int) < (qs.length : Int) := by omega
   have hml : Q[m1].zw.length ≤ 1000000 := hQk.out.lm _ (qy h1); have hO0 : Own B 60 11 abl w3 (.slice (some ⟨gm, 0, none⟩) Q[m1].zw.length mc) Q[m1].zw := hmv ▸ hmm; have hgmq : gm ≠ gq := fun e => aaz hmm M3.q (by decide) (by rw [hmv]; rfl) (by rw [e]; rfl)
   have hgmm : gm ≠ m := fun e => abm hmm M3.a (by decide) (by rw [hmv, e]; rfl)
   have hgqm : gq ≠ m := fun e => abm M3.q M3.a (by decide) (by rw [e]; rfl)
   obtain ⟨ms, hms⟩ := zj (Q[m1].zw); rw [← hms] at hO0 hml; have h2' : m2 < ms.length := by rw [hms]; exact h2
   have hm20 : (0 : Int) ≤ (m2 : Int) := by omega
   have hm21 : (m2 : Int) + 1 ≤ 1000001 := by omega
   have hm10 : (0 : Int) ≤ (m1 : Int) := by omega
   have hwr := qq (show IntKind.i64.wrap ((m2 : Int) + 1) = (m2 : Int) + 1 by rw [IntKind.wrap_i64]; omega); have d2 : w3.cell? ⟨gq, m1 * 3 + 2, none⟩ = some (.slice (some ⟨gm, 0, none⟩) ms.length mc) := M3.q.cell aaf m1 h1 2 _ (by show some (one Q[m1].mv) = _; rw [hmv, hms]; rfl); have fq := M3.q.frozen (m1 * 3 + 2); have hmvh := qq hmv; have hmsh := qq hms; have hO0h := qq hO0; have hred := qq (fun (v : Value) => axi (r := ⟨q, id⟩) (m1 := m1) (m2 := m2) (v := v) hQk.out h1 h2 hnh.out hidh.out); clear hb zg hB2 hmm hmv hms hO0 hnh hidh; go_upto_region 4 with fail; have hb := (Upd.refl (fun k => k = gm ∨ k = gq) w3).drew; refine wp_region_held_drew (S := fun v => Upd (fun k => k = gm ∨ k = gq) w3 v) (by kernel_rfl) hb (fun zg => ?_); refine tkH 0 zg ?_; refine tkH 1 zg ?_; refine tkH 2 zg ?_; refine tkH 3 zg ?_; refine tkF 4 zg ?_ (fun v hSw => (A3.upd hSw (fun e => e.elim (fun e => hgmm e.symm) (fun e => hgqm e.symm))).at 1 rfl); refine tkH 5 zg ?_; refine tkH 6 zg ?_; refine tkH 7 zg ?_; refine tkH 8 zg ?_; refine tkH 9 zg ?_; refine tkF 10 zg ?_ (fun v hSw => (A3.upd hSw (fun e => e.elim (fun e => hgmm e.symm) (fun e => hgqm e.symm))).at 1 rfl); refine tkH 11 zg ?_; refine tkH 12 zg ?_; refine tkH 13 zg ?_; refine tkH 15 zg ?_; refine tkH 16 zg ?_; refine tkH 17 zg ?_; refine aai 14 rfl (fun Kq hKq => ?_); go_simp; refine hKq.out _ _ hb (fun zg => ?_); clear hKq Kq; (try simp only [Act.put, lsT, lsZ, lsS]); refine aai 18 rfl (fun Kq hKq => ?_); go_simp; rw [hwr.out]
   (go_at_call 143; (with_reducible refine (akx w3.drew gm mc m2 ms (hO0h.out.pure (aan (qz _ _))) h2' hml).mono ?_); rintro e w5 ⟨rfl, hO5, hU5⟩)
   have hb : Upd (fun k => k = gm ∨ k = gq) w3 w5 := hb.trans hU5 (fun k e _ => .inl e); refine hKq.out _ _ hb (fun zg => ?_); clear hKq Kq; (try simp only [Act.put, lsT, lsZ, lsS]); refine tkH 19 zg ?_; refine tkH 20 zg ?_; have hUm : Upd (fun k => k = gm) w3 w5 := (Upd.of_below (aan (qz w3.heap.size w3))).trans hU5 (fun k e _ => e)
   have Oq5 := M3.q.upd hUm (fun k hk e => hgmq (by
    have h1 : gq = k := by simpa [Value.ownBlock] using hk
    have e : k = gm := e
    omega))
   have d2 : w5.cell? ⟨gq, m1 * 3 + 2, none⟩ = some (.slice (some ⟨gm, 0, none⟩) ms.length mc) := Oq5.cell aaf m1 h1 2 _ (by show some (one Q[m1].mv) = _; rw [hmvh.out, hmsh.out]; rfl); have fq := Oq5.frozen (m1 * 3 + 2); clear Oq5; refine aai 21 rfl (fun Kq hKq => ?_); go_simp; have hb : Upd (fun k => k = gm ∨ k = gq) w3 (w5.setCell ⟨gq, m1 * 3 + 2, none⟩ (.slice (some ⟨gm, 0, none⟩) (ms.length - 1) mc)) := hb.trans (Upd.set (S := fun k => k = gq) rfl _) (fun k e _ => .inr e); refine hKq.out _ _ hb (fun zg => ?_); clear hKq Kq; (try simp only [Act.put, lsT, lsZ, lsS]); refine wpAnyH_done (by kernel_rfl) ?_ _; have M5 := M3.setM h1 (g := gq) (r := (.slice (some ⟨gm, 0, none⟩) (ms.length - 1) mc)) (L := ms.eraseIdx m2) rfl hO5 rfl rfl (hUm.mono (fun k e _ => by rw [hmvh.out, show k = gm from e]; rfl)) (fun i e => .inl (by rw [hmvh.out]; exact e)) (fun x hx => .inl ⟨x, by rw [← hmsh.out]; exact (List.eraseIdx_sublist ms m2).subset hx, rfl⟩) (fun x hx => M3.wf.mi _ (qy h1) x (by rw [← hmsh.out]; exact (List.eraseIdx_sublist ms m2).subset hx))
   have M6 : MkS B m ex (w5.setCell ⟨gq, m1 * 3 + 2, none⟩ (.slice (some ⟨gm, 0, none⟩) (ms.length - 1) mc)) (StT.mk nx (.slice (some ⟨gq, 0, none⟩) qs.length qc) (.slice ba zk.length bc) (.slice ha hs.length hc) (aj3 Q m1 m2 (.slice (some ⟨gm, 0, none⟩) (ms.length - 1) mc)) zk hs) := by
    rw [show aj3 Q m1 m2 (.slice (some ⟨gm, 0, none⟩) (ms.length - 1) mc) = Q.set m1 { Q[m1] with mv := (.slice (some ⟨gm, 0, none⟩) (ms.length - 1) mc), zw := ms.eraseIdx m2 } from by rw [aio h1, hmsh.out]]; exact M5
   have hQ6 := qq (show (aj3 Q m1 m2 (.slice (some ⟨gm, 0, none⟩) (ms.length - 1) mc)).map QuT.q = (zy.take (k + 1)).foldl ad9 (qs.map QuT.q) by
    rw [jx hkt, List.foldl_append, ← hQ.out, hxh.out]
    exact (hred.out _).symm)
   have hQk6 := qq (hQk.out.taken (m2 := m2) (v := (.slice (some ⟨gm, 0, none⟩) (ms.length - 1) mc)) h1); have hMu6 := qq (show ∀ i, Mut (StT.mk nx (.slice (some ⟨gq, 0, none⟩) qs.length qc) (.slice ba zk.length bc) (.slice ha hs.length hc) (aj3 Q m1 m2 (.slice (some ⟨gm, 0, none⟩) (ms.length - 1) mc)) zk hs).mv i → i < w.heap.size → Mut (StT.mk nx (.slice (some ⟨gq, 0, none⟩) qs.length qc) (.slice ba zk.length bc) (.slice ha hs.length hc) qs zk hs).mv i from fun i h hl => hMu.out i (axw h1 (fun j e => by rw [hmvh.out]; exact e) h) hl)
   have hU6 : Upd S0 w (w5.setCell ⟨gq, m1 * 3 + 2, none⟩ (.slice (some ⟨gm, 0, none⟩) (ms.length - 1) mc)) := (hU.trans (Upd.of_below (S := S0) hB3) (fun _ e _ => e)).trans hb (fun k e hk => by
    rw [hS0h.out]; refine .inr (hMu.out k ?_ hk); rcases e with e | e
    ·unfold StT.mv; simp only [aab, abd]
     exact .inr (.inr (.inr (.inl ⟨_, jw (qy h1), by rw [hmvh.out, e]; rfl⟩)))
    ·exact aab.2 (.inl (by rw [e]; rfl)))
   have M6h := qq M6; clear M5 M6 hb zg; go_wp2; go_roundw
   case rel => exact ⟨k + 1, _, by omega, by go_num, M6h.out, hQ6, hQk6, (auo _ _ _ _).trans hQlh.out, hMu6, hU6⟩
   case measure => simp [intOf]; omega
  ·obtain rfl : k = zy.length := by omega
   rw [js] at hQ; obtain ⟨wo, rfl⟩ := zj wr; have hQlo := hQlh.out; have hN0 := qq (QsN.of hQ.out hQk.out); have hS0' := qq (show (StT.mk nx (.slice qa qs.length qc) (.slice ba zk.length bc) (.slice ha hs.length hc) Q zk hs).s = ((zu.take 0).map PtT.p).foldl aod S1 by rw [← hS1h.out]; unfold StT.s; dsimp only; rw [hQ.out]; rfl); have hMo := qq M; have hMuo := hMu; have hUo := hU; clear M hMu hU hQlh hQlo; go_wp2; go_loopw [12, 13, 14, 55] (fun s12 s13 s14 s55 wr => ∃ (k : Nat) (n1 : Int) (Q2 : List QuT), k ≤ zu.length ∧ s55 = .int .i64 k ∧ MkS B m ex wr (StT.mk n1 (.slice qa qs.length qc) (.slice ba zk.length bc) (.slice ha hs.length hc) Q2 zk hs) ∧ Hid ((StT.mk n1 (.slice qa qs.length qc) (.slice ba zk.length bc) (.slice ha hs.length hc) Q2 zk hs).s = ((zu.take k).map PtT.p).foldl aod S1) ∧ Hid (QsN qs Q2 k) ∧ Hid (∀ i, Mut (StT.mk n1 (.slice qa qs.length qc) (.slice ba zk.length bc) (.slice ha hs.length hc) Q2 zk hs).mv i → i < w.heap.size → Mut (StT.mk nx (.slice qa qs.length qc) (.slice ba zk.length bc) (.slice ha hs.length hc) qs zk hs).mv i) ∧ Upd S0 w wr) (fun s12 s13 s14 s55 _ => zu.length - (intOf s55).toNat)
   case atStart => exact ⟨0, nx, Q, Nat.zero_le _, rfl, hMo.out, hS0', hN0, hMuo, hUo⟩
   case round =>
    obtain ⟨k, n1, Q2, hk, rfl, M2, hs2, hN, hMu, hU⟩ := hrel; clear hMo hS0' hN0 hMuo hUo; by_cases hkt : k < zu.length
    ·have hkti : (k : Int) < (zu.length : Int) := by omega
     have hS0m : ∀ i, S0 i ↔ i = m ∨ Mut (StT.mk nx (.slice qa qs.length qc) (.slice ba zk.length bc) (.slice ha hs.length hc) qs zk hs).mv i := fun i => by rw [hS0h.out]
     have hSl : Slc aat 12 wr (.slice pa zu.length pc) zu := hpsh.out.updL hU (fun hn b e hs => by
      obtain ⟨h1, h2⟩ := hpPh.out b e hn; rcases (hS0m b).1 hs with e | e
      ·exact h1 e
      ·exact h2 e)
     have hRk := (hprh.out _ (qy hkt)).lt.upd hU (fun i hi e => by
      rcases (hS0m i).1 e with e | e
      ·exact hi.1.1 e
      ·exact hi.1.2 e)
     obtain ⟨g, off, rfl⟩ := hSl.addrB hkt; obtain ⟨q, id, key, dur, red, mid, uk, un, us, uka, ukc, ula, ulc, uks, ul, body, hx, c0, c1, c2, c3, c4, c5, c6, c7, c8, c9, c10, c11⟩ := ad5 hSl hkt hRk; obtain ⟨hq1, hq2, hq3, hq4⟩ := hpqh.out _ (qy hkt); rw [hx] at hq1 hq2 hq3 hq4 hRk; have hq3 : 0 ≤ id := hq3; have hq4 : id ≤ 1099511627776 := hq4
     obtain ⟨m1, h1, hn, hm1⟩ : ∃ (i : Nat) (h : i < Q2.length), Q2[i].name = q ∧ lbK abf QuT.name Q2 q = i := by
      obtain ⟨h1, hn⟩ := aec cmpB_ok (hN.out.ris hrqh.out) (hN.out.hit hq1); exact ⟨_, h1, hn, rfl⟩
     have hQl : Q2.length = qs.length := hN.out.len; have hqa := fun (v : World) (h : Below wr.heap.size wr v) => atQ v n1 qa qs.length qc ba zk.length bc ha hs.length hc Q2 q (M2.pure h).rd.q (fun i => B ≤ i) (M2.pure h).rd.m (hN.out.ris hrqh.out) (by rw [hQl]; exact hokh.out.lq)
     rw [hm1, hN.out.hit hq1] at hqa; have hqah := qq hqa; have hxh := qq hx; have hnh := qq hn; have hq2h := qq hq2; have hRkh := qq hRk; have hQlh := qq hQl; have hS0mh := qq hS0m; clear hqa hx hn hm1 hq1 hq2 hRk hSl hQl hS0m; go_upto_region 9 with fail; have hAl := (qz wr.heap.size wr).alloc (qj _) (.cells #[.string q, .int .u64 id, .string key, .bool dur, .bool red, .string mid, .int .u8 uk, .int .u64 un, .string us, .slice uka uks.length ukc, .slice ula ul.length ulc, .string body] 64); have E1 := Blk.new wr [.string q, .int .u64 id, .string key, .bool dur, .bool red, .string mid, .int .u8 uk, .int .u64 un, .string us, .slice uka uks.length ukc, .slice ula ul.length ulc, .string body] 64; have hnbl : wr.heap.size < (wr.alloc (.cells #[.string q, .int .u64 id, .string key, .bool dur, .bool red, .string mid, .int .u8 uk, .int .u64 un, .string us, .slice uka uks.length ukc, .slice ula ul.length ulc, .string body] 64)).heap.size := by simp
     have hnbw : wr.heap.size = wr.heap.size := rfl; obtain ⟨nb, hnb⟩ := zj wr.heap.size; rw [← hnb] at E1 hnbl ⊢; obtain ⟨u, hu⟩ := zj (wr.alloc (.cells #[.string q, .int .u64 id, .string key, .bool dur, .bool red, .string mid, .int .u8 uk, .int .u64 un, .string us, .slice uka uks.length ukc, .slice ula ul.length ulc, .string body] 64)); rw [← hu] at E1 hAl hnbl ⊢; have hnbh := qq hnb; clear c0 c1 c2 c3 c4 c5 c6 c7 c8 c9 c10 c11 hu hnb hnbw; have A0 : Blk u m [.int .u64 n1, .slice qa qs.length qc, .slice ba zk.length bc, .slice ha hs.length hc] := (M2.pure hAl).a.blk; have hb := aan (qz u.heap.size u); refine wp_region_held_drew (S := fun v => Below u.heap.size u v) (by kernel_rfl) hb (fun zg => ?_); refine tkH 0 zg ?_; refine tkH 1 zg ?_; refine tkH 2 zg ?_; refine tkF 3 zg ?_ (fun v hSw => (A0.pure hSw).a4); refine tkH 4 zg ?_; refine tkF 5 zg ?_ (fun v hSw => (E1.pure hSw).at 0 rfl); refine aai 6 rfl (fun Kq hKq => ?_); go_simp
     (go_at_call 88; (with_reducible refine (hqah.out _ (hAl.trans (hb.mono hAl.size))).mono ?_); rintro e w3 ⟨rfl, hB2⟩)
     have hb : Below u.heap.size u w3 := hb.trans (hB2.mono hb.size); refine hKq.out _ _ hb (fun zg => ?_); clear hKq Kq; (try simp only [Act.put, lsT, lsZ, lsS]); refine tkH 7 zg ?_; refine tkH 8 zg ?_; refine tkH 9 zg ?_; refine tkH 10 zg ?_; refine tkH 11 zg ?_; refine wpAnyH_done (by kernel_rfl) ?_ _; have hB3 := hAl.trans (hb.mono hAl.size); have M3 := M2.pure hB3; have A3 : Blk w3 m [.int .u64 n1, .slice qa qs.length qc, .slice ba zk.length bc, .slice ha hs.length hc] := M3.a.blk; have E3 := E1.pure hb; obtain ⟨gq, rfl, hgq⟩ := abr M3.q h1; have hmm := M3.mm _ (qy h1); obtain ⟨ma, mc, hmv, -⟩ : ∃ a c, Q2[m1].mv = .slice a Q2[m1].zw.length c ∧ Q2[m1].zw.length ≤ maxLen := (hmm.slc aac).len
     have hmq : m1 < qs.length := by rw [← hQlh.out]; exact h1
     have hm1 : (m1 : Int) < (qs.length : Int) := by omega
     have hm10 : (0 : Int) ≤ (m1 : Int) := by omega
     have hml : Q2[m1].zw.length ≤ 1000000 + k := hN.out.lm _ (qy h1); have hO0 : Own B 60 11 abl w3 (.slice ma Q2[m1].zw.length mc) Q2[m1].zw := hmv ▸ hmm; obtain ⟨ms, hms⟩ := zj (Q2[m1].zw); rw [← hms] at hO0 hml; have hgqm : gq ≠ m := fun e => abm M3.q M3.a (by decide) (by rw [e]; rfl)
     have hgqb : gq < wr.heap.size := M2.q.lt rfl; have hmb : m < wr.heap.size := M2.a.blk.lt; have hnbe := hnbh.out; have hmvlt : ∀ i, Value.ownBlock (.slice ma ms.length mc) = some i → i < wr.heap.size := fun i e => (M2.mm _ (qy h1)).lt (by rw [hmv, ← hms]; exact e)
     have hmvm : ∀ i, Value.ownBlock (.slice ma ms.length mc) = some i → i ≠ m := fun i e e2 => abm hO0 M3.a (by decide) (by rw [e, e2])
     have hmvq : ∀ i, Value.ownBlock (.slice ma ms.length mc) = some i → i ≠ gq := fun i e e2 => aaz hO0 M3.q (by decide) e (by rw [e2]; rfl)
     have hSm : ¬ (fun i => Value.ownBlock (.slice ma ms.length mc) = some i ∨ i = gq) m := fun e => e.elim (fun e => hmvm m e rfl) (fun e => hgqm e.symm)
     have hSp : ¬ (fun i => Value.ownBlock (.slice ma ms.length mc) = some i ∨ i = gq) nb := fun e => by
      rcases e with e | e
      ·have := hmvlt nb e; omega
      ·have e : nb = gq := e; omega
     have hSpq := qq hSp; have hSm : ¬ (fun i => Value.ownBlock (.slice ma ms.length mc) = some i) m := fun e => hSm (.inl e)
     have hSp : ¬ (fun i => Value.ownBlock (.slice ma ms.length mc) = some i) nb := fun e => hSp (.inl e)
     have d2 : w3.cell? ⟨gq, m1 * 3 + 2, none⟩ = some (.slice ma ms.length mc) := M3.q.cell aaf m1 h1 2 _ (by show some (one Q2[m1].mv) = _; rw [hmv, hms]; rfl)
     have hown := qq (fun (v : World) (h : Below w3.heap.size w3 v) => afa (PT.mk key dur red mid (VT.mk uk un us (.slice uka uks.length ukc) (.slice ula ul.length ulc) uks ul)) _ v (((show Rd _ wr (VT.mk uk un us (.slice uka uks.length ukc) (.slice ula ul.length ulc) uks ul) from hRkh.out).pure hB3).pure h) hq2h.out (hTbh.out _ ((hU.trans (Upd.of_below (S := S0) (hB3.trans (h.mono hB3.size))) (fun _ e _ => e)).mono (fun i e _ => by
      rcases (hS0mh.out i).1 e with e | e
      ·rw [e]; exact M3.mB
      ·exact hMh.out.mutB e))))
     rw [show PT.arg (PT.mk key dur red mid (VT.mk uk un us (.slice uka uks.length ukc) (.slice ula ul.length ulc) uks ul)) = .agg #[.string key, .bool dur, .bool red, .string mid, .int .u8 uk, .int .u64 un, .string us, .slice uka uks.length ukc, .slice ula ul.length ulc] from PT.arg_mk ..] at hown; have hmvh := qq hmv; have hmsh := qq hms; have hO0h := qq hO0; have hmvlth := qq hmvlt; have hmvqh := qq hmvq; have hmvmh := qq hmvm; have hSmh := qq hSm; have hSph := qq hSp; clear hb zg hB2 hmm hmv hms hO0 hnbe hmvlt hmvq hmvm hSm hSp hRkh hq2h hqah; go_upto_region 10 with fail; have hbb := aan (qz w3.heap.size w3); have hb := (show Upd (fun i => Value.ownBlock (.slice ma ms.length mc) = some i) w3 w3.drew ∧ w3.drew.cell? ⟨gq, m1 * 3 + 2, none⟩ = some (.slice ma ms.length mc) from ⟨(Upd.refl _ w3).drew, d2⟩); refine acb (fun v => Upd (fun i => Value.ownBlock (.slice ma ms.length mc) = some i) w3 v ∧ v.cell? ⟨gq, m1 * 3 + 2, none⟩ = some (.slice ma ms.length mc)) 27 hb (fun zg => ?_); clear d2; refine tkU 0 zg ?_; refine tkU 1 zg ?_; refine tkU 2 zg ?_; refine tkU 3 zg ?_; refine tkG 4 zg ?_ (fun v hSw => (A3.upd hSw.1 hSmh.out).at 1 rfl); refine tkU 5 zg ?_; refine tkU 6 zg ?_; refine tkU 7 zg ?_; refine tkU 8 zg ?_; refine tkU 9 zg ?_; refine tkG 10 zg ?_ (fun v hSw => (A3.upd hSw.1 hSmh.out).at 1 rfl); refine tkU 11 zg ?_; refine tkU 12 zg ?_; refine tkU 13 zg ?_; refine tkU 14 zg ?_ (hy := fun v hSw => by (try dsimp only at hSw); have d2 := hSw.2; clear hSw; go_simp; (try with_reducible rfl)); refine tkU 15 zg ?_; refine tkG 16 zg ?_ (fun v hSw => (E3.upd hSw.1 hSph.out).at 1 rfl); refine tkU 17 zg ?_; refine tkG 18 zg ?_ (fun v hSw => have q := E3.upd hSw.1 hSph.out; And.intro (q.at 2 rfl) (And.intro (q.at 3 rfl) (And.intro (q.at 4 rfl) (And.intro (q.at 5 rfl) (And.intro (q.at 6 rfl) (And.intro (q.at 7 rfl) (And.intro (q.at 8 rfl) (And.intro (q.at 9 rfl) (q.at 10 rfl))))))))); refine tkU 20 zg ?_; refine tkG 21 zg ?_ (fun v hSw => (E3.upd hSw.1 hSph.out).at 11 rfl); refine aiu 19 rfl (fun Kq hKq => ?_); go_simp
     (go_at_call 85; (with_reducible refine (hown.out _ hbb).mono ?_); rintro e w5 ⟨pt2, rfl, ht2, hR5, hB5⟩)
     obtain ⟨key2, dur2, red2, mid2, tv2⟩ := pt2; have hR5 : Rd (fun i => w3.heap.size ≤ i) _ tv2 := hR5; obtain ⟨uk2, un2, us2, uka2, ukc2, ula2, ulc2, uks2, ul2, rfl, -⟩ := hR5.open; rw [PT.arg_mk]; have hbc := hbb.trans (hB5.mono hbb.size); have hb : Upd (fun i => Value.ownBlock (.slice ma ms.length mc) = some i) w3 w5 ∧ w5.cell? ⟨gq, m1 * 3 + 2, none⟩ = some (.slice ma ms.length mc) := ⟨Upd.of_below hbc, (hbc.cell (World.block_lt_of_cell? w3 _ hb.2)).trans hb.2⟩; have ht2 := qq ht2; refine hKq.out _ _ hb (fun zg => ?_); clear hKq Kq; (try simp only [Act.put, lsT, lsZ, lsS]); refine tkU 22 zg ?_; refine aiu 23 rfl (fun Kq hKq => ?_); go_simp; have hb56 := (qz w5.heap.size w5).alloc (qj _) (.cells #[.int .u64 id, .string key2, .bool dur2, .bool red2, .string mid2, .int .u8 uk2, .int .u64 un2, .string us2, .slice uka2 uks2.length ukc2, .slice ula2 ul2.length ulc2, .string body] 60); have N := Blk.new w5 [.int .u64 id, .string key2, .bool dur2, .bool red2, .string mid2, .int .u8 uk2, .int .u64 un2, .string us2, .slice uka2 uks2.length ukc2, .slice ula2 ul2.length ulc2, .string body] 60; have hbd := hbc.trans (hb56.mono hbc.size); have hw6 : (w5.alloc (.cells #[.int .u64 id, .string key2, .bool dur2, .bool red2, .string mid2, .int .u8 uk2, .int .u64 un2, .string us2, .slice uka2 uks2.length ukc2, .slice ula2 ul2.length ulc2, .string body] 60)).heap.size = w5.heap.size + 1 := by simp
     obtain ⟨w6, hw6e⟩ := zj (w5.alloc (.cells #[.int .u64 id, .string key2, .bool dur2, .bool red2, .string mid2, .int .u8 uk2, .int .u64 un2, .string us2, .slice uka2 uks2.length ukc2, .slice ula2 ul2.length ulc2, .string body] 60)); rw [← hw6e] at N hbd hb56 hw6 ⊢; have hb : Upd (fun i => Value.ownBlock (.slice ma ms.length mc) = some i) w3 w6 ∧ w6.cell? ⟨gq, m1 * 3 + 2, none⟩ = some (.slice ma ms.length mc) := ⟨Upd.of_below hbd, (hb56.cell (World.block_lt_of_cell? w5 _ hb.2)).trans hb.2⟩; have hw6 := qq hw6; clear hw6e; refine hKq.out _ _ hb (fun zg => ?_); clear hKq Kq; (try simp only [Act.put, lsT, lsZ, lsS]); refine aiu 24 rfl (fun Kq hKq => ?_); have hBw3 := jk hBw (jk hU.size (jk hB3.size hbd.size)); have O6 := hO0h.out.pure hbd; refine abe rfl (aaq (base := B) rfl (.tmp 83) (.tmp 92) 49 60 rfl aml aac _ ms rfl O6 w5.heap.size 1 (MsT.mk id (PT.mk key2 dur2 red2 mid2 (VT.mk uk2 un2 us2 (.slice uka2 uks2.length ukc2) (.slice ula2 ul2.length ulc2) uks2 ul2)) body) (ag5 _) rfl (fun j u hu => (N.cell j).trans hu) (by omega) (by unfold maxLen; omega) hBw3 ?_); intro g' cap' w7 hO7 hgr hfr; refine ⟨rfl, ?_⟩; have hgU := Upd.grown (S := (fun i => Value.ownBlock (.slice ma ms.length mc) = some i)) hgr (fun k e => e); have hUm7 := (Upd.of_below (S := (fun i => Value.ownBlock (.slice ma ms.length mc) = some i)) hbd).trans hgU (fun _ e _ => e); have Oq7 := M3.q.upd hUm7 (fun k hk e => hmvqh.out k e (by have h1 : gq = k := (by simpa [Value.ownBlock] using hk); exact h1.symm)); have d2 : w7.cell? ⟨gq, m1 * 3 + 2, none⟩ = some (.slice ma ms.length mc) := Oq7.cell aaf m1 h1 2 _ (by show some (one Q2[m1].mv) = _; rw [hmvh.out, hmsh.out]; rfl); have fq := Oq7.frozen (m1 * 3 + 2); have hb : Upd (fun i => Value.ownBlock (.slice ma ms.length mc) = some i) w3 w7 ∧ w7.cell? ⟨gq, m1 * 3 + 2, none⟩ = some (.slice ma ms.length mc) := ⟨hUm7, d2⟩; have hfrh := qq hfr; have hgrh := qq hgr; clear Oq7 hfr hgr; refine hKq.out _ _ hb (fun zg => ?_); clear hKq Kq; (try simp only [Act.put, lsT, lsZ, lsS]); refine tkU 25 zg ?_; refine tkU 26 zg ?_; refine aq2 27 rfl (fun Kq hKq => ?_); go_simp; have hb : Upd (fun i => Value.ownBlock (.slice ma ms.length mc) = some i ∨ i = gq) w3 (w7.setCell ⟨gq, m1 * 3 + 2, none⟩ (.slice (some ⟨g', 0, none⟩) (ms.length + 1) cap')) := (hb.1.mono (T := (fun i => Value.ownBlock (.slice ma ms.length mc) = some i ∨ i = gq)) (fun k e _ => .inl e)).trans (Upd.set (S := fun k => k = gq) rfl _) (fun k e _ => .inr e); refine hKq.out _ _ ?_; clear hKq Kq; (try simp only [Act.put, lsT, lsZ, lsS]); refine asc ?_
     have hfrb : ∀ i, Value.ownBlock (.slice (some ⟨g', 0, none⟩) (ms.length + 1) cap') = some i → Value.ownBlock (.slice ma ms.length mc) = some i ∨ i = w6.heap.size := fun i e => by
      have e : g' = i := by simpa [Value.ownBlock] using e
      rw [← e]; exact hfrh.out
     have hlt3 : ∀ i, Mut (ex :: StT.mv (StT.mk n1 (.slice (some ⟨gq, 0, none⟩) qs.length qc) (.slice ba zk.length bc) (.slice ha hs.length hc) Q2 zk hs)) i → i < w3.heap.size := fun i hM => by
      rcases aab.1 hM with e | e
      ·have := hexl i e; have := hU.size; have := hB3.size; omega
      ·exact M3.mutL e
     have hU57 := (Upd.of_below (S := (fun i => Value.ownBlock (.slice ma ms.length mc) = some i)) hb56).trans hgU (fun _ e _ => e); have hw6o := hw6.out; have hbz := hbd.size; have hbz5 := hbc.size; have hb3z := hB3.size; have hUz := hU.size
     have M7 : MkS B m ex (w7.setCell ⟨gq, m1 * 3 + 2, none⟩ (.slice (some ⟨g', 0, none⟩) (ms.length + 1) cap')) (StT.mk n1 (.slice (some ⟨gq, 0, none⟩) qs.length qc) (.slice ba zk.length bc) (.slice ha hs.length hc) (axj Q2 m1 (.slice (some ⟨g', 0, none⟩) (ms.length + 1) cap') (MsT.mk id (PT.mk key2 dur2 red2 mid2 (VT.mk uk2 un2 us2 (.slice uka2 uks2.length ukc2) (.slice ula2 ul2.length ulc2) uks2 ul2)) body)) zk hs) := by
      rw [show axj Q2 m1 (.slice (some ⟨g', 0, none⟩) (ms.length + 1) cap') (MsT.mk id (PT.mk key2 dur2 red2 mid2 (VT.mk uk2 un2 us2 (.slice uka2 uks2.length ukc2) (.slice ula2 ul2.length ulc2) uks2 ul2)) body) = Q2.set m1 { Q2[m1] with mv := (.slice (some ⟨g', 0, none⟩) (ms.length + 1) cap'), zw := ms ++ [(MsT.mk id (PT.mk key2 dur2 red2 mid2 (VT.mk uk2 un2 us2 (.slice uka2 uks2.length ukc2) (.slice ula2 ul2.length ulc2) uks2 ul2)) body)] } from by rw [amq h1, hmsh.out]]; refine M3.setM h1 (g := gq) (r := (.slice (some ⟨g', 0, none⟩) (ms.length + 1) cap')) (L := ms ++ [(MsT.mk id (PT.mk key2 dur2 red2 mid2 (VT.mk uk2 un2 us2 (.slice uka2 uks2.length ukc2) (.slice ula2 ul2.length ulc2) uks2 ul2)) body)]) rfl hO7 rfl rfl (hUm7.mono (fun k e _ => by rw [hmvh.out, ← hmsh.out]; exact e)) (fun i e => ?_) (fun x hx => ?_) (fun x hx => ?_)
      ·rcases hfrb i e with e | e
       ·exact .inl (by rw [hmvh.out, ← hmsh.out]; exact e)
       ·exact .inr (by omega)
      ·rcases List.mem_append.1 hx with hx | hx
       ·exact .inl ⟨x, by rw [← hmsh.out]; exact hx, rfl⟩
       ·rw [jc.1 hx]
        refine .inr ((hR5.lt.upd hU57 (fun i hi e => ?_)).weaken (fun i _ hi => ⟨?_, ?_, fun hM => ?_, fun e => ?_⟩))
        ·have := hmvlth.out i e; omega
        ·have := M3.mB; have := M3.a.blk.lt; omega
        ·have := M3.a.blk.lt; omega
        ·have := hlt3 i hM; omega
        ·rcases hfrb i e with e | e
         ·have := hmvlth.out i e; omega
         ·omega
      ·rcases List.mem_append.1 hx with hx | hx
       ·exact M3.wf.mi _ (qy h1) x (by rw [← hmsh.out]; exact hx)
       ·rw [jc.1 hx]
        exact ⟨hq3, by show id < _; omega⟩
     have A7 : Blk (w7.setCell ⟨gq, m1 * 3 + 2, none⟩ (.slice (some ⟨g', 0, none⟩) (ms.length + 1) cap')) m [.int .u64 n1, .slice (some ⟨gq, 0, none⟩) qs.length qc, .slice ba zk.length bc, .slice ha hs.length hc] := M7.a.blk; have M8 := qq (M7.setN (n := id + 1) ⟨by omega, by omega⟩)
     have hs8 := qq (show (StT.mk (id + 1) (.slice (some ⟨gq, 0, none⟩) qs.length qc) (.slice ba zk.length bc) (.slice ha hs.length hc) (axj Q2 m1 (.slice (some ⟨g', 0, none⟩) (ms.length + 1) cap') (MsT.mk id (PT.mk key2 dur2 red2 mid2 (VT.mk uk2 un2 us2 (.slice uka2 uks2.length ukc2) (.slice ula2 ul2.length ulc2) uks2 ul2)) body)) zk hs).s = ((zu.take (k + 1)).map PtT.p).foldl aod S1 by
      rw [jx hkt, List.map_append, List.foldl_append, ← hs2.out, List.map_singleton, hxh.out]
      exact (az5 (p := PtT.p (PtT.mk q id (PT.mk key dur red mid (VT.mk uk un us (.slice uka uks.length ukc) (.slice ula ul.length ulc) uks ul)) body)) (x := (MsT.mk id (PT.mk key2 dur2 red2 mid2 (VT.mk uk2 un2 us2 (.slice uka2 uks2.length ukc2) (.slice ula2 ul2.length ulc2) uks2 ul2)) body)) (hN.out.ris hrqh.out) h1 hnh.out (by show Ms.mk id (PT.p _) body = Ms.mk id (PT.p _) body; rw [ht2.out])).symm)
     have hN8 := qq (hN.out.put (v := (.slice (some ⟨g', 0, none⟩) (ms.length + 1) cap')) (x := (MsT.mk id (PT.mk key2 dur2 red2 mid2 (VT.mk uk2 un2 us2 (.slice uka2 uks2.length ukc2) (.slice ula2 ul2.length ulc2) uks2 ul2)) body)) h1)
     have hMu8 := qq (show ∀ i, Mut (StT.mk (id + 1) (.slice (some ⟨gq, 0, none⟩) qs.length qc) (.slice ba zk.length bc) (.slice ha hs.length hc) (axj Q2 m1 (.slice (some ⟨g', 0, none⟩) (ms.length + 1) cap') (MsT.mk id (PT.mk key2 dur2 red2 mid2 (VT.mk uk2 un2 us2 (.slice uka2 uks2.length ukc2) (.slice ula2 ul2.length ulc2) uks2 ul2)) body)) zk hs).mv i → i < w.heap.size → Mut (StT.mk nx (.slice (some ⟨gq, 0, none⟩) qs.length qc) (.slice ba zk.length bc) (.slice ha hs.length hc) qs zk hs).mv i from fun i hM hl => by
      rcases az6 (nx := n1) h1 hM with h | h
      ·exact hMu.out i h hl
      ·rcases hfrb i h with e | e
       ·exact hMu.out i (by unfold StT.mv; simp only [aab, abd]; exact .inr (.inr (.inr (.inl ⟨_, jw (qy h1), by rw [hmvh.out, ← hmsh.out]; exact e⟩)))) hl
       ·omega)
     have hU8 := ((hU.trans (Upd.of_below (S := S0) hB3) (fun _ e _ => e)).trans hb (fun i e hi => by
      refine (hS0mh.out i).2 (.inr (hMu.out i ?_ hi)); unfold StT.mv; simp only [aab, abd]; rcases e with e | e
      ·exact .inr (.inr (.inr (.inl ⟨_, jw (qy h1), by rw [hmvh.out, ← hmsh.out]; exact e⟩)))
      ·exact .inl (by rw [show i = gq from e]; rfl))).trans (Upd.set (S := fun i => i = m) (p := ⟨m, 0, none⟩) rfl (.int .u64 (id + 1))) (fun i e _ => (hS0mh.out i).2 (.inl e))
     have E7 := E3.upd hb hSpq.out; have e1 := E7.at 1 rfl; have a0 := A7.at 0 rfl; have af0 := A7.frozen 0; clear hb zg hbc hbd hb56 hUm7 hgU hU57 hfrb hlt3 M7 N O6 hO7 d2 fq E7 A7 hw6o hbz hbz5 hb3z hUz hBw3 hbb hmvlth hfrh hgrh ht2 hR5; go_wp2; go_roundw
     case rel => exact ⟨k + 1, id + 1, _, by omega, by go_num, M8.out, hs8, hN8, hMu8, hU8⟩
     case measure => simp [intOf]; omega
    ·obtain rfl : k = zu.length := by omega
     rw [js] at hs2; go_wp2; go_end0; exact ⟨rfl, ⟨_, hs2.out, M2⟩, hU.mono (fun i e _ => (by rw [hS0h.out] at e; exact e))⟩
theorem alx {s : Rf} : ∀ {l : List Rf} {qs : List Qu}, hasM qs s = true → (∀ r ∈ l, s ≠ r) → hasM (l.foldl ad9 qs) s = true
 | [], _, h, _ => h
 | r :: l, qs, h, hn => alx (l := l) (aup h (hn r (List.mem_cons_self ..))) (fun x hx => hn x (List.mem_cons_of_mem _ hx))
theorem an4 {qs : List Qu} {l : List Rf} (h : ∀ r ∈ l, hasM qs r = true ∧ aa8 l r ≤ 1) (k : Nat) (hk : k < l.length) : hasM ((l.take k).foldl ad9 qs) l[k] = true := by
 refine alx (h _ (qy hk)).1 (fun r hr e => ?_)
 have h1 := (h _ (qy hk)).2
 have e2 : l = l.take k ++ l[k] :: l.drop (k + 1) := by rw [← List.drop_eq_getElem_cons hk, List.take_append_drop]
 have h2 := (congrArg (fun L => aa8 L l[k]) e2).trans (aa6 _ _ _)
 have h3 : 0 < aa8 (l.take k) l[k] := abq.2 (e ▸ hr)
 have h4 : 0 < aa8 (l[k] :: l.drop (k + 1)) l[k] := abq.2 (List.mem_cons_self ..)
 omega
theorem axx {qs : List Qu} {n : Int} {L : List Pt} {k : Nat} (hk : k < L.length) : aen qs n (L.drop k) = if ad0 qs L[k].q = false then 7 else if L[k].id < n then 9 else aen qs (L[k].id + 1) (L.drop (k + 1)) := by
 rw [List.drop_eq_getElem_cons hk, aen]
structure PutsOk (zu : List PtT) : Prop where
 s : ∀ x ∈ zu, x.p.pr.smallB = true
 i : ∀ x ∈ zu, 0 ≤ x.id ∧ x.id ≤ 1099511627776
 l : zu.length ≤ 1000000
theorem an5 {qs : List Qu} : ∀ {L : List Pt} {n : Int}, aen qs n L = 0 → ∀ p ∈ L, ad0 qs p.q = true
 | [], _, _, p, hp => by cases hp
 | q :: L, n, h, p, hp => by
  unfold aen at h; by_cases h1 : ad0 qs q.q = false
  ·rw [qw h1] at h; omega
  ·rw [qk h1] at h
   by_cases h2 : q.id < n
   ·rw [qw h2] at h; omega
   ·rw [qk h2] at h
    rcases List.mem_cons.1 hp with rfl | hp
    ·simpa using h1
    ·exact an5 h p hp
theorem apo {B m : Nat} {ex : Value} {w : World} {t : StT} (h : MkS B m ex w t) {k : Nat} (hk : k < B) : k ≠ m ∧ ¬ Mut t.mv k := ⟨by have := h.mB; omega, fun e => by have := h.mutB e; omega⟩
theorem az8 (w : World) (B m : Nat) (nx : Int) (qa : Option Addr) (qc : Nat) (ba : Option Addr) (bc : Nat) (ha : Option Addr) (hc : Nat) (qs : List QuT) (zk : List BrT) (hs : List He) (ek : Int) (en : ByteArray) (ei : Int) (xf : Int) (xg xb : ByteArray) (pa : Option Addr) (pc : Nat) (ta : Option Addr) (tc : Nat) (zu : List PtT) (zy : List Rf) (hM : MkS B m (.slice none 0 0) w (StT.mk nx (.slice qa qs.length qc) (.slice ba zk.length bc) (.slice ha hs.length hc) qs zk hs)) (hBw : B ≤ w.heap.size) (hE : EnRd (fun i => i < B) w (EnT.mk ek en ei (xf, xg, xb) (.slice pa zu.length pc) (.slice ta zy.length tc) zu zy)) (hok : qsB nx (qs.map QuT.q) = true) (hsm : StSm (StT.mk nx (.slice qa qs.length qc) (.slice ba zk.length bc) (.slice ha hs.length hc) qs zk hs)) (hp : PutsOk zu) (hl : zy.length ≤ 1000000) (hTb : ∀ u, Upd (fun i => B ≤ i) w u → Tb u) :
 Calls prog 32 #[.pointer (some ⟨m, 0, none⟩), .agg #[.int .u8 ek, .string en, .int .u64 ei, .int .u32 xf, .string xg, .string xb, .slice pa zu.length pc, .slice ta zy.length tc]] w (ag9 B m w ((StT.mk nx (.slice qa qs.length qc) (.slice ba zk.length bc) (.slice ha hs.length hc) qs zk hs).s.doE (EnT.mk ek en ei (xf, xg, xb) (.slice pa zu.length pc) (.slice ta zy.length tc) zu zy).e)) := by
 have hE0 := (qz w.heap.size w).alloc (qj _) (.cells #[.int .u8 ek, .string en, .int .u64 ei, .int .u32 xf, .string xg, .string xb, .slice pa zu.length pc, .slice ta zy.length tc] 34)
 have E0 := Blk.new w [.int .u8 ek, .string en, .int .u64 ei, .int .u32 xf, .string xg, .string xb, .slice pa zu.length pc, .slice ta zy.length tc] 34
 have M0 := hM.pure hE0
 have A0 : Blk _ m [.int .u64 nx, .slice qa qs.length qc, .slice ba zk.length bc, .slice ha hs.length hc] := M0.a.blk
 obtain ⟨pe, hpe⟩ := zz (aen (qs.map QuT.q) nx (zu.map PtT.p))
 obtain ⟨te, hte⟩ := zz (abw (StT.mk nx (.slice qa qs.length qc) (.slice ba zk.length bc) (.slice ha hs.length hc) qs zk hs).s [] zy)
 have hdo : (StT.mk nx (.slice qa qs.length qc) (.slice ba zk.length bc) (.slice ha hs.length hc) qs zk hs).s.doE (EnT.mk ek en ei (xf, xg, xb) (.slice pa zu.length pc) (.slice ta zy.length tc) zu zy).e = if pe ≠ 0 then no pe else if te ≠ 0 then no te else ((StT.mk nx (.slice qa qs.length qc) (.slice ba zk.length bc) (.slice ha hs.length hc) qs zk hs).s.work (zu.map PtT.p) zy, 0) := by
  unfold St.doE; show (if aen (qs.map QuT.q) nx (zu.map PtT.p) ≠ 0 then no (aen (qs.map QuT.q) nx (zu.map PtT.p)) else if abw (StT.mk nx (.slice qa qs.length qc) (.slice ba zk.length bc) (.slice ha hs.length hc) qs zk hs).s [] zy ≠ 0 then no (abw (StT.mk nx (.slice qa qs.length qc) (.slice ba zk.length bc) (.slice ha hs.length hc) qs zk hs).s [] zy) else _) = _
  rw [hpe, hte]; rfl
 rw [hdo]
 obtain ⟨R, hR⟩ := zz (if pe ≠ 0 then no pe else if te ≠ 0 then no te else ((StT.mk nx (.slice qa qs.length qc) (.slice ba zk.length bc) (.slice ha hs.length hc) qs zk hs).s.work (zu.map PtT.p) zy, 0))
 rw [hR]
 have hRh := qq hR
 clear hR
 have hps : Slc aat 12 w (.slice pa zu.length pc) zu := hE.p
 have hts : Slc abc 2 w (.slice ta zy.length tc) zy := hE.s
 have hpr : ∀ x ∈ zu, Rd (fun i => i < B) w x.pr.app := hE.r
 have hta := qq (fun (v : World) (h : Below w.heap.size w v) => alu v B m (.slice none 0 0) nx qa qc ba bc ha hc qs zk hs ta tc zy (StT.mk nx (.slice qa qs.length qc) (.slice ba zk.length bc) (.slice ha hs.length hc) qs zk hs).s (hM.pure h) rfl hok hsm (hts.pure h) hl)
 rw [hte] at hta
 have hwk := qq (fun (v : World) (h : Below w.heap.size w v) (h1 : pe = 0) (h2 : te = 0) => an3 v B m (.slice none 0 0) nx qa qc ba bc ha hc qs zk hs pa pc ta tc zu zy (hM.pure h) (jk hBw h.size) (hsm.ok hok) hl (hts.pure h) (fun k e n => apo hM (hE.sP k e n)) (an4 (fun r hr => by
  have := ae7 (hte.trans h2) r hr
  exact ⟨this.1, by omega⟩)) hp.l (hps.pure h) (fun k e n => apo hM (hE.pP k e n)) (fun x hx => ((hpr x hx).pure h).weaken (fun i _ hi => apo hM hi)) (fun i e => by simp [Value.ownBlock] at e) (fun x hx => ⟨an5 (hpe.trans h1) _ (jw hx), hp.s x hx, hp.i x hx⟩) (fun u hu => hTb u ((Upd.of_below (S := fun i => B ≤ i) h).trans hu (fun _ e _ => e))))
 have hpi : (zu.length : Int) ≤ 1000000 := by have := hp.l; omega
 have hMh := qq hM; have hpeh := qq hpe; have hpsh := qq hps; have hprh := qq hpr; have hokh := qq hok; have hph := qq hp
 have hlq := hsm.q
 have hlqh : Hid (qs.length ≤ 1000000) := qq hlq
 have hwn := qq hM.wf.n
 clear hM hE hok hsm hp hTb hpe hte hdo hps hts hpr M0 hlq
 go_enter func32, ntmps32
 go_upto_region 1 with fail
 obtain ⟨u, hu⟩ := zj (w.alloc (.cells #[.int .u8 ek, .string en, .int .u64 ei, .int .u32 xf, .string xg, .string xb, .slice pa zu.length pc, .slice ta zy.length tc] 34))
 rw [← hu] at hE0 E0 A0 ⊢
 have hul : w.heap.size < u.heap.size := by rw [hu]; simp
 clear hu
 have a0 := A0.at 0 rfl; have e4 := E0.at 6 rfl
 have hn0 := hwn.out.1; have hn1 := qq hwn.out.2
 clear hwn
 go_wp2
 clear a0 e4
 go_loopw [4, 6, 7, 8, 17] (fun s4 s6 s7 s8 s17 wr => ∃ (k : Nat) (n : Int), k ≤ zu.length ∧ s17 = .int .i64 k ∧ s4 = .int .u64 n ∧ 0 ≤ n ∧ Hid (aen (qs.map QuT.q) n ((zu.map PtT.p).drop k) = pe) ∧ Below u.heap.size u wr) (fun s4 s6 s7 s8 s17 _ => zu.length - (intOf s17).toNat)
 case atStart => exact ⟨0, nx, Nat.zero_le _, rfl, rfl, hn0, hpeh, qz _ _⟩
 case round =>
  obtain ⟨k, n, hk, rfl, rfl, hn, hall, hB⟩ := hrel; have hBw0 := hE0.trans (hB.mono hE0.size); by_cases hkt : k < zu.length
  ·have hkti : (k : Int) < (zu.length : Int) := by omega
   have hSl := hpsh.out.pure hBw0; obtain ⟨g, off, rfl⟩ := hSl.addrB hkt; obtain ⟨q, id, key, dur, red, mid, uk, un, us, uka, ukc, ula, ulc, uks, ul, body, hx, c0, c1, c2, c3, c4, c5, c6, c7, c8, c9, c10, c11⟩ := ad5 hSl hkt ((hprh.out _ (qy hkt)).pure hBw0); have hid := hph.out.i _ (qy hkt); rw [hx] at hid; have hid0 : 0 ≤ id := hid.1; have hid1 : id ≤ 1099511627776 := hid.2; have hstep := axx (qs := qs.map QuT.q) (n := n) (L := zu.map PtT.p) (k := k) (by simpa using hkt); rw [hall.out, zq, hx] at hstep; have hstp : pe = if ad0 (qs.map QuT.q) q = false then 7 else if id < n then 9 else aen (qs.map QuT.q) (id + 1) ((zu.map PtT.p).drop (k + 1)) := hstep
   obtain ⟨b, hb0⟩ := zz (acv abf QuT.name qs q); obtain ⟨m1, hm1⟩ := zz (lbK abf QuT.name qs q); have hqa := fun (v : World) (h : Below w.heap.size w v) => atQ v nx qa qs.length qc ba zk.length bc ha hs.length hc qs q (hMh.out.pure h).rd.q (fun i => B ≤ i) (hMh.out.pure h).rd.m (awq hokh.out) hlqh.out
   rw [hm1, hb0] at hqa; rw [← anm, hb0] at hstp; have hqah := qq hqa; have hsth := qq hstp; clear hqa hstp hstep hm1 hb0 hx hid hSl; go_upto_region 5 with fail; have hAl := (qz wr.heap.size wr).alloc (qj _) (.cells #[.string q, .int .u64 id, .string key, .bool dur, .bool red, .string mid, .int .u8 uk, .int .u64 un, .string us, .slice uka uks.length ukc, .slice ula ul.length ulc, .string body] 64); have E1 := Blk.new wr [.string q, .int .u64 id, .string key, .bool dur, .bool red, .string mid, .int .u8 uk, .int .u64 un, .string us, .slice uka uks.length ukc, .slice ula ul.length ulc, .string body] 64; have hBu := hB.trans (hAl.mono hB.size); have hBu0 := hBw0.trans (hAl.mono hBw0.size); generalize wr.heap.size = nb at E1 ⊢; generalize wr.alloc (.cells #[.string q, .int .u64 id, .string key, .bool dur, .bool red, .string mid, .int .u8 uk, .int .u64 un, .string us, .slice uka uks.length ukc, .slice ula ul.length ulc, .string body] 64) = x at E1 hBu hBu0 ⊢; clear c0 c1 c2 c3 c4 c5 c6 c7 c8 c9 c10 c11 hAl hB hBw0; have A1 := A0.pure hBu; have hb := aan (qz x.heap.size x); refine aal (fun v => Below x.heap.size x v) hb (fun zg => ?_); refine tkH 0 zg ?_; refine tkH 1 zg ?_; refine tkH 2 zg ?_; refine tkF 3 zg ?_ (fun v hSw => (A1.pure hSw).a4); refine tkH 4 zg ?_; refine tkF 5 zg ?_ (fun v hSw => (E1.pure hSw).at 0 rfl); refine aai 6 rfl (fun Kq hKq => ?_); go_simp
   (go_at_call 88; (with_reducible refine (hqah.out _ (hBu0.trans (hb.mono hBu0.size))).mono ?_); rintro e w3 ⟨rfl, hB2⟩)
   have hb : Below x.heap.size x w3 := hb.trans (hB2.mono hb.size); refine hKq.out _ _ hb (fun zg => ?_); clear hKq Kq; (try simp only [Act.put, lsT, lsZ, lsS]); refine tkH 7 zg ?_; refine tkH 8 zg ?_; refine tkH 9 zg ?_; refine tkH 10 zg ?_; refine tkH 11 zg ?_; refine ah9 ?_; have hB3 := hBu.trans (hb.mono hBu.size); have hB30 := hBu0.trans (hb.mono hBu0.size); have E3 := E1.pure hb; have e1 := E3.at 1 rfl; clear hb zg hB2 hqah hBu hBu0; cases b
   ·have hp7 : pe = 7 := by rw [hsth.out, qw rfl]
    subst hp7; go_wp2_with (go_at_call 89; (with_reducible refine (acq _ _).mono ?_); rintro e w4 ⟨rfl, rfl⟩); rw [← hRh.out, qw (show ((7 : Int)) ≠ 0 from by decide)]; exact ⟨rfl, adt (by decide) hB30⟩
   by_cases hin : n ≤ id
   rotate_left 1
   ·have hp9 : pe = 9 := by rw [hsth.out, qk (by simp), qw (by omega)]
    subst hp9; have hind : decide (n ≤ id) = false := qg hin; go_wp2_with (first | (go_at_call 89; (with_reducible refine (ab9 _ _).mono ?_); rintro e w4 ⟨rfl, rfl⟩) | (go_at_call 89; (with_reducible refine (acq _ _).mono ?_); rintro e w4 ⟨rfl, rfl⟩)); rw [← hRh.out, qw (show ((9 : Int)) ≠ 0 from by decide)]; exact ⟨rfl, adt (by decide) hB30⟩
   have hall2 := qq (show aen (qs.map QuT.q) (id + 1) ((zu.map PtT.p).drop (k + 1)) = pe by rw [hsth.out, qk (by simp), qk (by omega)]); go_wp2_with (go_at_call 89; (with_reducible refine (ab9 _ _).mono ?_); rintro e w4 ⟨rfl, rfl⟩); go_roundw
   case rel => exact ⟨k + 1, id + 1, by omega, by go_num, rfl, by omega, hall2, hB3⟩
   case measure => simp [intOf]; omega
  ·obtain rfl : k = zu.length := by omega
   have hpe0 : pe = 0 := by
    have := hall.out; rw [show (zu.map PtT.p).drop zu.length = [] from List.drop_eq_nil_of_le (by simp)] at this; exact this.symm
   subst hpe0; have Ew := E0.pure hB; have e4 := Ew.at 6 rfl; have e5 := Ew.at 7 rfl; obtain ⟨b, hb0⟩ := zz (decide (te = 0)); cases b
   ·have hne : ¬ te = 0 := jq hb0
    have htah := qq (show _ from by have h := hta.out _ hBw0; simp only [qk hne] at h; exact h); have hneh := qq hne; clear hta hwk hb0 hne; go_wp2_with (go_at_call 96; (with_reducible refine htah.out.mono ?_); rintro e w4 ⟨rfl, hB4⟩); rw [← hRh.out, qk (by simp), qw hneh.out]; exact ⟨rfl, adt hneh.out (hBw0.trans (hB4.mono hBw0.size))⟩
   have hz : te = 0 := qt hb0; have htah := qq (show _ from by have h := hta.out _ hBw0; simp only [qw hz] at h; exact h); have hwkh := qq (fun v h => hwk.out v h rfl hz); have hzh := qq hz; clear hta hwk hb0 hz; go_wp2_with (first | (go_at_call 96; (with_reducible refine htah.out.mono ?_); rintro e w4 ⟨rfl, hB4⟩; have hB04 := hBw0.trans (hB4.mono hBw0.size); have Ew4 := Ew.pure hB4; have f4 := Ew4.at 6 rfl; have f5 := Ew4.at 7 rfl) | (go_at_call 97; (with_reducible refine (hwkh.out _ hB04).mono ?_); rintro e w5 ⟨rfl, ⟨t5, hs5, hM5⟩, hU5⟩)); go_end0; rw [← hRh.out, qk (by simp), qk (by rw [hzh.out]; simp)]; exact aip hs5 hM5 ((Upd.of_below (S := fun i => B ≤ i) hB04).trans hU5 (fun _ e _ => hMh.out.stoB e))
theorem MkS.updX {B m : Nat} {ex : Value} {w w' : World} {t : StT} (h : MkS B m ex w t) {L : List PtT} (hx : Own B 64 12 aat w ex L) (hU : Upd (fun i => ex.ownBlock = some i) w w') : MkS B m ex w' t := by
 have hfar : ∀ v : VT, Rd (Far B m ex t) w v → Rd (Far B m ex t) w' v := fun v hv => hv.upd hU (fun i hi e => hi.2.2 (aab.2 (.inl e)))
 have hoth : ∀ {α : Type} {e n : Nat} {enc : α → List Value} {v : Value} {L : List α}, e ≠ 64 → Own B e n enc w v L → Own B e n enc w' v L := fun h1 ho => ho.upd hU (fun k hk e => aaz ho hx h1 hk e)
 exact ⟨h.a.upd hU (fun e => abm hx h.a (by decide) e), h.mB, hoth (by decide) h.q, hoth (by decide) h.b, hoth (by decide) h.h, fun q hq => hoth (by decide) (h.mm q hq), fun b hb => (h.p b hb).upd hU (fun k hk e => h.xd b hb k hk e), fun b hb => hoth (by decide) (h.tk b hb), h.md, h.pd, h.xd, fun q hq x hx => hfar _ (h.ra q hq x hx), fun b hb x hx => hfar _ (h.rb b hb x hx), h.wf⟩
theorem auz {B m : Nat} {ex : Value} {w : World} {t : StT} (h : MkS B m ex w t) {α : Type} {e n : Nat} {enc : α → List Value} {v : Value} {L : List α} (ho : Own B e n enc w v L) (h1 : e ≠ 51) (h2 : e ≠ 62) (h3 : e ≠ 90) (h4 : e ≠ 60) (h5 : e ≠ 81) {k : Nat} (hk : v.ownBlock = some k) (h6 : ∀ b ∈ t.zk, b.pv.ownBlock ≠ some k) : k ≠ m ∧ ¬ Mut t.mv k := by
 refine ⟨fun e => abm ho h.a h5 (by rw [hk, e]), fun hM => ?_⟩
 unfold StT.mv at hM
 simp only [aab, abd] at hM
 rcases hM with e | e | e | ⟨u, hu, e⟩ | ⟨u, hu, e⟩
 ·exact aaz ho h.q h1 hk e
 ·exact aaz ho h.b h2 hk e
 ·exact aaz ho h.h h3 hk e
 ·obtain ⟨q, hq, rfl⟩ := jv.1 hu; exact aaz ho (h.mm q hq) h4 hk e
 ·obtain ⟨q, hq, rfl⟩ := jv.1 hu; exact h6 q hq e
theorem BrX.tkFar {B m : Nat} {w : World} {t : StT} {b : BrT} (h : MkS B m b.pv w t) (x : BrX B m w t b) {k : Nat} (hk : b.tv.ownBlock = some k) : k ≠ m ∧ ¬ Mut t.mv k :=
 auz h x.tk (by decide) (by decide) (by decide) (by decide) (by decide) hk (fun c hc e => aaz x.tk (h.p c hc) (by decide) hk e)
theorem BrX.pFar {B m : Nat} {w : World} {t : StT} {b : BrT} (h : MkS B m b.pv w t) (x : BrX B m w t b) {k : Nat} (hk : b.pv.ownBlock = some k) : k ≠ m ∧ ¬ Mut t.mv k :=
 auz h x.p (by decide) (by decide) (by decide) (by decide) (by decide) hk (fun c hc e => h.xd c hc k e hk)
theorem BrX.pure {B m : Nat} {w w' : World} {t : StT} {b : BrT} (x : BrX B m w t b) (hB : Below w.heap.size w w') : BrX B m w' t b := ⟨x.p.pure hB, x.tk.pure hB, fun y hy => (x.r y hy).pure hB, x.pi, x.ti⟩
def aha (zu : List PtT) (n : Int) (k : Nat) : List PtT := (zu.take k).mapIdx (fun j p => { p with id := n + (j : Int) }) ++ zu.drop k
theorem ade (zu : List PtT) (n : Int) (k : Nat) : (aha zu n k).length = zu.length := by
 unfold aha; rw [jz, List.length_mapIdx, List.length_take, List.length_drop]; omega
theorem afu {zu : List PtT} {n : Int} {k i : Nat} (h : i < zu.length) (h' : i < (aha zu n k).length) : (aha zu n k)[i] = if i < k then { zu[i] with id := n + (i : Int) } else zu[i] := by
 simp only [aha, List.getElem_append, List.length_mapIdx, List.length_take, List.getElem_mapIdx, List.getElem_take, List.getElem_drop]
 by_cases e : i < k
 ·rw [dif_pos (by omega), qw e]
 ·rw [dif_neg (by omega), qk e]
  congr 1; omega
theorem ake {zu : List PtT} {n : Int} {k : Nat} (h : k < zu.length) : (aha zu n k)[k]'(by rw [ade]; exact h) = zu[k] := by
 rw [afu h, qk (by omega)]
theorem aiq {zu : List PtT} {n : Int} {k : Nat} (h : k < zu.length) : (aha zu n k).set k { zu[k] with id := n + (k : Int) } = aha zu n (k + 1) := by
 apply List.ext_getElem (by rw [List.length_set, ade, ade])
 intro i h1 h2
 have h3 : i < zu.length := by rw [ade] at h2; exact h2
 rw [List.getElem_set, afu h3, afu h3]
 by_cases e : k = i
 ·subst e; rw [qw rfl, qw (by omega)]
 ·rw [qk e]
  by_cases e2 : i < k
  ·rw [qw e2, qw (by omega)]
  ·rw [qk e2, qk (by omega)]
theorem ayn (zu : List PtT) (n : Int) : aha zu n 0 = zu := by unfold aha; simp
theorem aqu : ∀ (l : List Pt) (n : Int) (k : Nat) (h : k < (afg l n).length), (afg l n)[k] = { l[k]'(by rw [ag3] at h; exact h) with id := n + k }
 | [], n, i, h => by simp [afg] at h
 | p :: l, n, 0, h => by simp [afg]
 | p :: l, n, i + 1, h => by
  simp only [afg, List.getElem_cons_succ]; rw [aqu l (n + 1) i]; have e : n + 1 + (i : Int) = n + ((i + 1 : Nat) : Int) := by push_cast; omega
  rw [e]
theorem ayo : ∀ (zu : List PtT) (n : Int), (aha zu n zu.length).map PtT.p = afg (zu.map PtT.p) n := by
 intro zu n
 apply List.ext_getElem (by rw [jf, ade, ag3, jf])
 intro i h1 h2
 rw [jf, ade] at h1
 rw [zq, aqu, afu h1, qw h1, zq]; rfl
structure BrOk (qs : List QuT) (b : BrT) : Prop where
 pq : ∀ p ∈ b.zu, ad0 (qs.map QuT.q) p.q = true ∧ p.p.pr.smallB = true
 tm : ∀ r ∈ b.zy, hasM (qs.map QuT.q) r = true ∧ aa8 b.zy r ≤ 1
 pl : b.zu.length ≤ 1000000
 tl : b.zy.length ≤ 1000000
theorem apq (w : World) (B m : Nat) (nx : Int) (qa : Option Addr) (qc : Nat) (ba : Option Addr) (bc : Nat) (ha : Option Addr) (hc : Nat) (qs : List QuT) (zk : List BrT) (hs : List He) (ek : Int) (en : ByteArray) (ei : Int) (xf : Int) (xg xb : ByteArray) (pa : Option Addr) (pn pc : Nat) (ta : Option Addr) (tn tc : Nat) (e : En) (hM : MkS B m (.slice none 0 0) w (StT.mk nx (.slice qa qs.length qc) (.slice ba zk.length bc) (.slice ha hs.length hc) qs zk hs)) (hBw : B ≤ w.heap.size) (he : e.x = (xf, xg, xb)) (hen : e.n = ei) (hei : 0 ≤ ei ∧ ei < 18446744073709551616) (hr : RisK aav BrT.x zk) (hok : QsOk qs) (hL : zk.length ≤ 1000000) (hbo : ∀ b ∈ zk, BrOk qs b) (hnx : 1 ≤ nx ∧ nx ≤ 1099511627777) (hTb : ∀ u, Upd (fun i => B ≤ i) w u → Tb u) :
 Calls prog 34 #[.pointer (some ⟨m, 0, none⟩), .agg #[.int .u8 ek, .string en, .int .u64 ei, .int .u32 xf, .string xg, .string xb, .slice pa pn pc, .slice ta tn tc]] w (ApF (Sto m (StT.mk nx (.slice qa qs.length qc) (.slice ba zk.length bc) (.slice ha hs.length hc) qs zk hs)) B m w ((StT.mk nx (.slice qa qs.length qc) (.slice ba zk.length bc) (.slice ha hs.length hc) qs zk hs).s.commit e)) := by
 have hE0 := (qz w.heap.size w).alloc (qj _) (.cells #[.int .u8 ek, .string en, .int .u64 ei, .int .u32 xf, .string xg, .string xb, .slice pa pn pc, .slice ta tn tc] 34)
 have E0 := Blk.new w [.int .u8 ek, .string en, .int .u64 ei, .int .u32 xf, .string xg, .string xb, .slice pa pn pc, .slice ta tn tc] 34
 have hlv := alv (w.alloc (.cells #[.int .u8 ek, .string en, .int .u64 ei, .int .u32 xf, .string xg, .string xb, .slice pa pn pc, .slice ta tn tc] 34)) B m nx qa qc ba bc ha hc qs zk hs xf xg xb (hM.pure hE0) (jk hBw hE0.size) hr hL
 obtain ⟨i, hi⟩ := zz (lbK aav BrT.x zk (xf, xg, xb))
 obtain ⟨b, hb0⟩ := zz (acv aav BrT.x zk (xf, xg, xb))
 have hco : (StT.mk nx (.slice qa qs.length qc) (.slice ba zk.length bc) (.slice ha hs.length hc) qs zk hs).s.commit e = (match (zk.map BrT.b).find? (fun b => decide (b.x = (xf, xg, xb))) with
  | none => no 7
  | some b => if b.zu ≠ [] ∧ ei ≠ nx then no 9 else if 1099511627777 < nx + b.zu.length then no 6 else (((StT.mk nx (.slice qa qs.length qc) (.slice ba zk.length bc) (.slice ha hs.length hc) qs zk hs).s.without (xf, xg, xb)).work (afg b.zu nx) b.zy, 0)) := by
  unfold St.commit; rw [he, hen]; rfl
 have hno : b = false → (StT.mk nx (.slice qa qs.length qc) (.slice ba zk.length bc) (.slice ha hs.length hc) qs zk hs).s.commit e = no 7 := fun h => by
  rw [hco, auy (by rw [hb0, h]; simp)]
 have hhit : b = true → ∃ h : i < zk.length, zk[i].x = (xf, xg, xb) ∧ (StT.mk nx (.slice qa qs.length qc) (.slice ba zk.length bc) (.slice ha hs.length hc) qs zk hs).s.commit e = (if zk[i].b.zu ≠ [] ∧ ei ≠ nx then no 9 else if 1099511627777 < nx + zk[i].b.zu.length then no 6 else ((St.mk nx (qs.map QuT.q) ((zk.eraseIdx i).map BrT.b) hs).work (afg zk[i].b.zu nx) zk[i].b.zy, 0)) := fun h => by
  obtain ⟨hl, hx⟩ := aec abu hr (hb0.trans h); simp only [hi] at hl hx; refine ⟨hl, hx, ?_⟩; rw [hco, aqt hr hl hx]; dsimp only
  rw [show (StT.mk nx (.slice qa qs.length qc) (.slice ba zk.length bc) (.slice ha hs.length hc) qs zk hs).s.without (xf, xg, xb) = St.mk nx (qs.map QuT.q) ((zk.eraseIdx i).map BrT.b) hs from by
   unfold St.without StT.s; dsimp only; rw [alw hr hl hx]]
 rw [hi, hb0] at hlv
 obtain ⟨R, hR⟩ := zz ((StT.mk nx (.slice qa qs.length qc) (.slice ba zk.length bc) (.slice ha hs.length hc) qs zk hs).s.commit e)
 rw [hR] at hno hhit ⊢
 have hnoh := qq hno; have hhith := qq hhit
 obtain ⟨S0, hS0⟩ := zj (Sto m (StT.mk nx (.slice qa qs.length qc) (.slice ba zk.length bc) (.slice ha hs.length hc) qs zk hs))
 rw [← hS0]
 have hSBh := qq (show ∀ k, S0 k → B ≤ k from fun k e => hM.stoB (by rw [← hS0]; exact e))
 have hbBh := qq (show ∀ k, Value.ownBlock (.slice ba zk.length bc) = some k ∨ k = m → S0 k ∧ k < w.heap.size from fun k e => by
  rw [hS0]; rcases e with e | e
  ·exact ⟨.inr (aab.2 (.inr (aab.2 (.inl e)))), hM.b.lt e⟩
  ·exact ⟨.inl e, by rw [e]; exact hM.a.blk.lt⟩)
 have hS0h := qq hS0
 clear hS0
 clear hi hb0 hr hM hco hno hhit hR he hen
 have hokh := qq hok; have hboh := qq hbo; have hTbh := qq hTb; have hnxh := qq hnx; have heih := qq hei
 clear hok hbo hTb hnx hei
 have e3 := E0.at 3 rfl; have e4 := E0.at 4 rfl; have e5 := E0.at 5 rfl
 cases b
 ·simp only [Bool.false_eq_true, if_false] at hlv
  have hlvh := qq hlv; clear hlv; rw [hnoh.out rfl]; go_enter func34, ntmps34; go_wp2_with (go_at_call 100; (with_reducible refine hlvh.out.mono ?_); rintro e w2 ⟨rfl, hB2⟩; have hF := hE0.trans (hB2.mono hE0.size)); exact ⟨rfl, aqs (by decide) (Upd.of_below hF)⟩
 simp only [if_true] at hlv
 have hlvh := qq hlv
 obtain ⟨hil, hix, hRr⟩ := hhith.out rfl
 have hRr0 := qq hRr
 clear hlv hix hRr hhith hnoh
 go_enter func34, ntmps34
 go_upto_region 2 with (go_at_call 100; (with_reducible refine hlvh.out.mono ?_); rintro r w2 ⟨yf, yg, yb, pa, pc, ta, tc, zu, zy, ra, rn, rc, hbi, hxx, rfl, hM2, hX2, hU2, hrb⟩; have hrb := qq hrb; have hxx := qq hxx; have hbi := qq hbi; have hX2 := qq hX2; have hM2 := qq hM2; have hU2 := qq hU2)
 have hRr := hRr0.out
 obtain rfl : rn = (zk.eraseIdx i).length := by obtain ⟨_, _, e, _⟩ := (hM2.out.b.slc aag).len; injection e
 have hbe : zk[i] = (BrT.mk (xf, xg, xb) (.slice pa zu.length pc) (.slice ta zy.length tc) zu zy) := by have := hbi.out; rw [List.getElem?_eq_getElem hil] at this; exact Option.some.inj this
 rw [hbe] at hRr
 have hbeh := qq hbe
 have hbk := qq (hbe ▸ hboh.out _ (qy hil))
 have hRrh := qq (show R = if zu.map PtT.p ≠ [] ∧ ei ≠ nx then no 9 else if 1099511627777 < nx + ((zu.map PtT.p).length : Int) then no 6 else ((St.mk nx (qs.map QuT.q) ((zk.eraseIdx i).map BrT.b) hs).work (afg (zu.map PtT.p) nx) zy, 0) from hRr)
 clear e3 e4 e5 hlvh hRr0 hRr hbe
 have hAl := (qz w2.heap.size w2).alloc (qj _) (.cells #[.int .u32 yf, .string yg, .string yb, .slice pa zu.length pc, .slice ta zy.length tc] 62)
 have hUo := hU2.out
 have F2 := Blk.new w2 [.int .u32 yf, .string yg, .string yb, .slice pa zu.length pc, .slice ta zy.length tc] 62
 have E2 := (E0.upd hUo (fun e => by have := (hbBh.out _ e).2; omega)).pure hAl
 have M2 := hM2.out.pure hAl
 have X2 := hX2.out.pure hAl
 have hU0 := ((Upd.of_below (S := S0) hE0).trans (hUo.mono (T := S0) (fun k e _ => (hbBh.out k e).1)) (fun _ e _ => e)).trans (Upd.of_below (S := S0) hAl) (fun _ e _ => e)
 have hz2 : w.heap.size < w2.heap.size := by have := hUo.size; simp at this; omega
 have hz2u : w2.heap.size < (w2.alloc (.cells #[.int .u32 yf, .string yg, .string yb, .slice pa zu.length pc, .slice ta zy.length tc] 62)).heap.size := by simp
 obtain ⟨u, hu⟩ := zj (w2.alloc (.cells #[.int .u32 yf, .string yg, .string yb, .slice pa zu.length pc, .slice ta zy.length tc] 62))
 rw [← hu] at E2 F2 M2 X2 hU0 hz2u ⊢
 have hpf : ∀ j, Value.ownBlock (.slice pa zu.length pc) = some j → j < w2.heap.size := fun j e => hX2.out.p.lt e
 obtain ⟨fb, hfb⟩ := zj w2.heap.size
 rw [← hfb] at F2 hz2u hz2 hpf ⊢
 have hpfh := qq hpf; have hgB := qq (show ∀ j, Value.ownBlock (.slice pa zu.length pc) = some j → S0 j from fun j e => by rw [hS0h.out]; refine .inr ?_; unfold StT.mv; simp only [aab, abd]; exact .inr (.inr (.inr (.inr ⟨_, jw (qy hil), by rw [hbeh.out]; exact e⟩))))
 clear hpf
 have A2 : Blk u m [.int .u64 nx, .slice qa qs.length qc, .slice ra (zk.eraseIdx i).length rc, .slice ha hs.length hc] := M2.a.blk
 have hX2h := qq X2; have hM2h := qq M2
 clear hUo hAl hM2 hX2 hU2 hu hfb E0 hE0 X2 M2
 have hpl := hbk.out.pl
 have hpl : zu.length ≤ 1000000 := hpl
 have hpi : (zu.length : Int) ≤ 1000000 := by omega
 obtain ⟨c0, hc0⟩ := zz ((zu.length : Int) == 0)
 obtain ⟨c1, hc1⟩ := zz (ei == nx)
 have hcp : c0 = true ↔ zu.map PtT.p = [] := by rw [← hc0, beq_iff_eq, List.map_eq_nil_iff]; constructor; intro h; exact List.eq_nil_of_length_eq_zero (by omega); intro h; rw [h]; rfl
 have hcph := qq hcp
 clear hcp
 go_cut [] from 10 to 24 (fun wx => Below u.heap.size u wx ∧ Hid (¬ (zu.map PtT.p ≠ [] ∧ ei ≠ nx)))
 case first =>
  have hb := aan (qz u.heap.size u); refine aal (fun v => Below u.heap.size u v) hb (fun zg => ?_); refine tkH 0 zg ?_; refine tkF 1 zg ?_ (fun v hSw => (F2.pure hSw).at 3 rfl); refine tkH 2 zg ?_; refine tkH 3 zg ?_; have hc0h := qq hc0; have hc1h := qq hc1; clear hc0; refine tkH 4 zg ?_; cases c0
  ·skip
   refine tkH 5 zg ?_; refine tkF 6 zg ?_ (fun v hSw => (E2.pure hSw).at 2 rfl); refine tkH 7 zg ?_; refine tkH 8 zg ?_; refine tkH 9 zg ?_; refine tkH 10 zg ?_; refine tkF 11 zg ?_ (fun v hSw => (A2.pure hSw).at 0 rfl); refine tkH 12 zg ?_; clear hc1; cases c1
   ·skip
    refine tkH 13 zg ?_; refine aai 14 rfl (fun Kq hKq => ?_); go_simp
    (go_at_call 89; (with_reducible refine (acq _ _).mono ?_); rintro e w3 ⟨rfl, rfl⟩)
    rw [hRrh.out, qw ⟨fun e => jp (hcph.out.2 e) (by simp), fun e => by have := hc1h.out; rw [e] at this; simp at this⟩]; exact ⟨rfl, aqs (by decide) (hU0.trans (Upd.of_below (S := S0) hb) (fun _ e _ => e))⟩
   refine tkH 13 zg ?_; refine aai 14 rfl (fun Kq hKq => ?_); go_simp
   (go_at_call 89; (with_reducible refine (ab9 _ _).mono ?_); rintro e w3 ⟨rfl, rfl⟩)
   refine hKq.out _ _ hb (fun zg => ?_); clear hKq Kq; (try simp only [Act.put, lsT, lsZ, lsS]); refine ah9 ?_; go_wp2; go_meet; exact ⟨hb, qq (fun h => h.2 (by have := hc1h.out; simpa using this))⟩
  ·skip
   refine agu 5 _ rfl rfl zg ?_; (try simp only [Act.put, lsT, lsZ, lsS]); refine agu 6 _ rfl rfl zg ?_; (try simp only [Act.put, lsT, lsZ, lsS]); refine agu 7 _ rfl rfl zg ?_; (try simp only [Act.put, lsT, lsZ, lsS]); refine agu 8 _ rfl rfl zg ?_; (try simp only [Act.put, lsT, lsZ, lsS]); refine agu 9 _ rfl rfl zg ?_; (try simp only [Act.put, lsT, lsZ, lsS]); refine agu 10 _ rfl rfl zg ?_; (try simp only [Act.put, lsT, lsZ, lsS]); refine agu 11 _ rfl rfl zg ?_; (try simp only [Act.put, lsT, lsZ, lsS]); refine agu 12 _ rfl rfl zg ?_; (try simp only [Act.put, lsT, lsZ, lsS]); refine tkH 13 zg ?_; refine aai 14 rfl (fun Kq hKq => ?_); go_simp
   (go_at_call 89; (with_reducible refine (ab9 _ _).mono ?_); rintro e w3 ⟨rfl, rfl⟩)
   refine hKq.out _ _ hb (fun zg => ?_); clear hKq Kq; (try simp only [Act.put, lsT, lsZ, lsS]); refine ah9 ?_; go_wp2; go_meet; exact ⟨hb, qq (fun h => h.1 (hcph.out.1 (by simp)))⟩
 case rest =>
 obtain ⟨hBc, hn9⟩ := hcut
 have A3 := A2.pure hBc; have F3 := F2.pure hBc
 have hn0 : 0 ≤ nx := by have := hnxh.out.1; omega
 obtain ⟨c2, hc2⟩ := zz (decide (nx + (zu.length : Int) ≤ 1099511627777))
 have hc2h := qq hc2
 clear hc2
 go_upto_region 3 with fail
 have hw0 : IntKind.u64.wrap (zu.length : Int) = (zu.length : Int) := by rw [IntKind.wrap_u64]; omega
 have hw1 : IntKind.u64.wrap (nx + (zu.length : Int)) = nx + (zu.length : Int) := by have := hnxh.out; rw [IntKind.wrap_u64]; omega
 have hc2 := hc2h.out
 have hb := aan (qz wc.heap.size wc)
 refine aal (fun v => Below wc.heap.size wc v) hb (fun zg => ?_)
 refine tkH 0 zg ?_
 refine tkH 1 zg ?_
 refine tkH 2 zg ?_
 refine tkH 3 zg ?_
 refine tkF 4 zg ?_ (fun v hSw => (A3.pure hSw).at 0 rfl)
 refine tkH 5 zg ?_
 refine tkF 6 zg ?_ (fun v hSw => (F3.pure hSw).at 3 rfl)
 refine tkH 7 zg ?_
 refine tkH 8 zg ?_
 refine tkH 9 zg ?_
 refine tkH 10 zg ?_
 clear hc2 hw0 hw1
 cases c2
 ·skip
  refine aai 11 rfl (fun Kq hKq => ?_); go_simp
  (go_at_call 89; (with_reducible refine (acq _ _).mono ?_); rintro e w3 ⟨rfl, rfl⟩)
  have h6 : 1099511627777 < nx + ((zu.map PtT.p).length : Int) := by have := jq hc2h.out; rw [jf]; omega
  rw [hRrh.out, qk hn9.out, qw h6]; exact ⟨rfl, aqs (by decide) (hU0.trans (Upd.of_below (S := S0) (hBc.trans (hb.mono hBc.size))) (fun _ e _ => e))⟩
 refine aai 11 rfl (fun Kq hKq => ?_)
 go_simp
 (go_at_call 89; (with_reducible refine (ab9 _ _).mono ?_); rintro e w3 ⟨rfl, rfl⟩)
 refine hKq.out _ _ hb (fun zg => ?_)
 clear hKq Kq
 (try simp only [Act.put, lsT, lsZ, lsS])
 refine ah9 ?_
 have hle : nx + (zu.length : Int) ≤ 1099511627777 := qt hc2h.out
 have hRf := qq (show R = ((St.mk nx (qs.map QuT.q) ((zk.eraseIdx i).map BrT.b) hs).work (afg (zu.map PtT.p) nx) zy, 0) by rw [hRrh.out, qk hn9.out, qk (by rw [jf]; omega)])
 have hBd := hBc.trans (hb.mono hBc.size)
 obtain ⟨wd, hwd⟩ := zj wc.drew
 rw [← hwd] at hBd ⊢
 have F4 := F2.pure hBd
 have q3 := F4.at 3 rfl
 have hMd := qq (hM2h.out.pure hBd); have hXd := qq (hX2h.out.pure hBd)
 have hU0d := hU0.trans (Upd.of_below (S := S0) hBd) (fun _ e _ => e)
 clear hwd hb zg hBc F3 A3 hRrh hn9 hc2h hcph hM2h hX2h A2 E2 F2 hc0 hc1 hU0
 go_wp2
 clear q3
 go_loopw [5, 40] (fun s5 s40 wr => ∃ k : Nat, k ≤ zu.length ∧ s40 = .int .i64 k ∧ MkS B m (.slice pa zu.length pc) wr (StT.mk nx (.slice qa qs.length qc) (.slice ra (zk.eraseIdx i).length rc) (.slice ha hs.length hc) qs (zk.eraseIdx i) hs) ∧ BrX B m wr (StT.mk nx (.slice qa qs.length qc) (.slice ra (zk.eraseIdx i).length rc) (.slice ha hs.length hc) qs (zk.eraseIdx i) hs) (BrT.mk (xf, xg, xb) (.slice pa zu.length pc) (.slice ta zy.length tc) (aha zu nx k) zy) ∧ Upd (fun i => Value.ownBlock (.slice pa zu.length pc) = some i) wd wr) (fun s5 s40 _ => zu.length - (intOf s40).toNat)
 case atStart => exact ⟨0, Nat.zero_le _, rfl, hMd.out, by rw [ayn]; exact hXd.out, Upd.refl _ _⟩
 case round =>
  obtain ⟨k, hk, rfl, M3, X3, hU⟩ := hrel; have A3 : Blk wr m [.int .u64 nx, .slice qa qs.length qc, .slice ra (zk.eraseIdx i).length rc, .slice ha hs.length hc] := M3.a.blk; have hfn : ¬ Value.ownBlock (.slice pa zu.length pc) = some fb := fun e => by have := hpfh.out fb e; omega
  have F3 := F4.upd hU hfn; by_cases hkt : k < zu.length
  ·have hkti : (k : Int) < (zu.length : Int) := by omega
   have hki : (0 : Int) ≤ (k : Int) := by omega
   have hkn : k < (aha zu nx k).length := by rw [ade]; exact hkt
   obtain ⟨gp, rfl, hgp⟩ := abr (show Own B 64 12 aat wr (.slice pa zu.length pc) (aha zu nx k) from X3.p) hkn; have hgm : gp ≠ m := fun e => abm X3.p M3.a (by decide) (by rw [e]; rfl)
   have hSm : ¬ (fun i => i = gp) m := fun e => hgm (show m = gp from e).symm
   have hSf : ¬ (fun i => i = gp) fb := fun e => hfn (by rw [show fb = gp from e]; rfl)
   have c1 : wr.cell? ⟨gp, k * 12 + 1, none⟩ = some (.int .u64 zu[k].id) := Own.cell aae (show Own B 64 12 aat wr (.slice (some ⟨gp, 0, none⟩) zu.length pc) (aha zu nx k) from X3.p) k hkn 1 _ (by rw [ake hkt]; rfl); have f1 : wr.frozen? ⟨gp, k * 12 + 1, none⟩ = false := Own.frozen (show Own B 64 12 aat wr (.slice (some ⟨gp, 0, none⟩) zu.length pc) (aha zu nx k) from X3.p) (k * 12 + 1); have hM3h := qq M3; have hX3h := qq X3; clear M3 X3; go_upto_region 7 with fail; have hw0 : IntKind.u64.wrap (k : Int) = (k : Int) := by rw [IntKind.wrap_u64]; omega
   have hw1 : IntKind.u64.wrap (nx + (k : Int)) = nx + (k : Int) := by rw [IntKind.wrap_u64]; omega
   have hb := (Upd.refl (fun i => i = gp) wr).drew; refine aal (fun v => Upd (fun i => i = gp) wr v) hb (fun zg => ?_); refine tkH 0 zg ?_; refine tkF 1 zg ?_ (fun v hSw => (F3.upd hSw hSf).at 3 rfl); refine tkH 2 zg ?_; refine tkH 3 zg ?_; refine tkH 4 zg ?_; refine tkH 5 zg ?_; refine tkH 6 zg ?_; refine tkF 7 zg ?_ (fun v hSw => (A3.upd hSw hSm).at 0 rfl); refine tkH 8 zg ?_; refine tkH 9 zg ?_; refine tkH 10 zg ?_; refine tkH 11 zg ?_; refine tkH 12 zg ?_; refine aai 13 rfl (fun Kq hKq => ?_); go_simp; have hb : Upd (fun i => i = gp) wr (wr.drew.setCell ⟨gp, k * 12 + 1, none⟩ (.int .u64 (nx + (k : Int)))) := hb.trans (Upd.set (S := (fun i => i = gp)) rfl _) (fun _ e _ => e); refine hKq.out _ _ hb (fun zg => ?_); clear hKq Kq; (try simp only [Act.put, lsT, lsZ, lsS]); refine ah9 ?_; have X3 := hX3h.out; have hU8 : Upd (fun i => Value.ownBlock (.slice (some ⟨gp, 0, none⟩) zu.length pc) = some i) wr ((wr.setCell ⟨gp, k * 12 + 1, none⟩ (.int .u64 (nx + (k : Int)))).drew) := (Upd.set (S := fun i => Value.ownBlock (.slice (some ⟨gp, 0, none⟩) zu.length pc) = some i) (p := ⟨gp, k * 12 + 1, none⟩) rfl (.int .u64 (nx + (k : Int)))).drew; have M8 := qq (hM3h.out.updX X3.p hU8); have hset := (Own.set aae (show Own B 64 12 aat wr (.slice (some ⟨gp, 0, none⟩) zu.length pc) (aha zu nx k) from X3.p) k hkn 1 (.int .u64 (nx + (k : Int))) { zu[k] with id := nx + (k : Int) } (by omega) (by rw [ake hkt]; rfl)).drew; rw [aiq hkt] at hset; have X8 : BrX B m ((wr.setCell ⟨gp, k * 12 + 1, none⟩ (.int .u64 (nx + (k : Int)))).drew) (StT.mk nx (.slice qa qs.length qc) (.slice ra (zk.eraseIdx i).length rc) (.slice ha hs.length hc) qs (zk.eraseIdx i) hs) (BrT.mk (xf, xg, xb) (.slice (some ⟨gp, 0, none⟩) zu.length pc) (.slice ta zy.length tc) (aha zu nx (k + 1)) zy) := ⟨hset, X3.tk.upd hU8 (fun j hj e => aaz X3.tk X3.p (by decide) hj e), fun x hx => ?hr, fun x hx => ?hi, X3.ti⟩; have X8h := qq X8; have hU9 := hU.trans hU8 (fun _ e _ => e); clear X8 hset hb zg X3 hw0 hw1 c1 f1; go_wp2; go_roundw
   case rel => exact ⟨k + 1, by omega, by go_num, M8.out, X8h.out, hU9⟩
   case measure => simp [intOf]; omega
   case hr =>
    rw [show aha zu nx (k + 1) = _ from (aiq hkt).symm] at hx; rcases jd hx with hx | rfl
    ·exact (X3.r x hx).upd hU8 (fun j hj e => hj.2.2 (aab.2 (.inl e)))
    ·have h1 := X3.r _ (qy hkn)
     rw [ake hkt] at h1; exact h1.upd hU8 (fun j hj e => hj.2.2 (aab.2 (.inl e)))
   case hi =>
    rw [show aha zu nx (k + 1) = _ from (aiq hkt).symm] at hx; rcases jd hx with hx | rfl
    ·exact X3.pi x hx
    ·exact ⟨by show 0 ≤ nx + (k : Int); omega, by show nx + (k : Int) < _; omega⟩
  ·obtain rfl : k = zu.length := by omega
   obtain ⟨D, hD⟩ := zj (aha zu nx zu.length); rw [← hD] at X3; have hDl : D.length = zu.length := by rw [hD, ade]
   have hDp : D.map PtT.p = afg (zu.map PtT.p) nx := by rw [hD, ayo]
   have hBz : B ≤ wr.heap.size := jk hBw (jk hU0d.size hU.size); have hbk' := hbk.out; have htm := fun r hr => hbk'.tm r hr
   have hUB := hU0d.trans hU (fun i e _ => hgB.out i e)
   have hwk := an3 wr B m (.slice pa zu.length pc) nx qa qc ra rc ha hc qs (zk.eraseIdx i) hs pa pc ta tc D zy M3 hBz hokh.out hbk'.tl (X3.tk.slc aa9) (fun j e _ => BrX.tkFar M3 X3 e) (fun j hj => an4 htm j hj) (by rw [hDl]; exact hpl)
    (by rw [hDl]; exact X3.p.slc aae) (by rw [hDl]; exact fun j e _ => BrX.pFar M3 X3 e) (fun x hx => (X3.r x hx).weaken (fun j _ hj => ⟨hj.2.1, fun hM => hj.2.2 (aab.2 (.inr hM))⟩)) (fun j e => X3.p.lt e)
    (fun x hx => by
     obtain ⟨j, hj, rfl⟩ := List.getElem_of_mem hx; have hj' : j < zu.length := by rw [← hDl]; exact hj
     have h1 : D[j] = { zu[j] with id := nx + (j : Int) } := by
      subst hD; rw [afu hj', qw hj']
     rw [h1]; have h2 := hbk'.pq zu[j] (qy hj')
     exact ⟨h2.1, h2.2, by show 0 ≤ nx + (j : Int); omega, by show nx + (j : Int) ≤ _; omega⟩)
    (fun v hv => hTbh.out v ((hUB.mono (fun i e _ => hSBh.out i e)).trans hv (fun _ e _ => e)))
   rw [hDl, hDp] at hwk; have hwkh := qq hwk; have e3 := F3.at 3 rfl; have e4 := F3.at 4 rfl; clear hD hDl hDp hwk htm hbk' X3 M3 A3 F3; go_wp2_with (go_at_call 97; (with_reducible refine hwkh.out.mono ?_); rintro e w5 ⟨rfl, ⟨t5, hs5, hM5⟩, hU5⟩); go_end0; rw [hRf.out]; exact aym hs5 hM5.noEx (hUB.trans hU5 (fun j e _ => by rw [hS0h.out]; exact e.imp (fun e => e) (fun e => auv hrb.out e)))
end Go.Proofs.YtgnaifhmcllnlaaGreatDoor
