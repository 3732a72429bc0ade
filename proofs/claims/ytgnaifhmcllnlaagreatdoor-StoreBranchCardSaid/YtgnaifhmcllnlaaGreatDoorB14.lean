/- Chapter 14: how the laws' arguments are opened: stores. Conditions: none. Written by gen_stArgs.py. (Texts joined.) -/
import Derived.Test.YtgnaifhmcllnlaaGreatDoorB13
import Derived.Test.YtgnaifhmcllnlaaGreatDoorRows
import Derived.PinnedBridge
import Derived.Lay
import Derived.Deep.DeepHandedRow
set_option maxRecDepth 100000
set_option maxHeartbeats 25600000
set_option linter.unusedSimpArgs false
set_option linter.unusedVariables false
namespace Go.Proofs.YtgnaifhmcllnlaaGreatDoor
open Go.RowKit
structure CPt (P : Nat → Prop) (w : World) (lv : Value) (L : List PtT) : Prop where
 o : Own 0 64 12 aat w lv L
 pP : ∀ k, lv.ownBlock = some k → P k
 r : ∀ x ∈ L, Rd (fun i => P i ∧ lv.ownBlock ≠ some i) w x.pr.app
theorem CSt.cpt {w0 w : World} {lv : Value} {L : List PtT} (h : CSt w0 w lv L) : CPt (fun i => w0.heap.size ≤ i ∧ i < w.heap.size) w lv L :=
 ⟨h.o.rebase (fun k _ => Nat.zero_le k), fun k e => ⟨h.o.ge e, h.o.lt e⟩, fun x hx => (h.rd x hx).weaken (fun i hi hm => ⟨⟨hm.1, hi⟩, hm.2⟩)⟩
theorem CPt.weaken {P Q : Nat → Prop} {w : World} {lv : Value} {L : List PtT} (h : CPt P w lv L) (hq : ∀ k, P k → Q k) : CPt Q w lv L := ⟨h.o, fun k e => hq k (h.pP k e), fun x hx => (h.r x hx).weaken (fun k _ hk => ⟨hq k hk.1, hk.2⟩)⟩
theorem CPt.upd {P S : Nat → Prop} {w w' : World} {lv : Value} {L : List PtT} (h : CPt P w lv L) (hu : Upd S w w') (hS : ∀ k, P k → ¬ S k) : CPt P w' lv L := ⟨h.o.upd hu (fun k hk => hS k (h.pP k hk)), h.pP, fun x hx => (h.r x hx).upd hu (fun k hk => hS k hk.1)⟩
theorem CPt.pure {P : Nat → Prop} {w w' : World} {lv : Value} {L : List PtT} (h : CPt P w lv L) (hB : Below w.heap.size w w') : CPt P w' lv L := ⟨h.o.pure hB, h.pP, fun x hx => (h.r x hx).pure hB⟩
theorem al2 {P : Prop} (h : P := by
 have C7 := (C5.pure hB6).upd hu7 (fun k hk e => hk.2 e)
 have hX5 := qq X5.lt
 have O7 := hO6.upd hu7 (fun i hi e => by have := hO6.ge hi; have := hX5.out; omega)
 have Z7 := (Z5.pure hB6).upd hu7 (fun e => by have := hxk.out; have := hz2.out; omega)
 have hb7 := (hb5.trans (hB6.mono hb5.size)).trans (hu7.below (jk hb5.size hB6.size) (fun k e => by have := hxk.out; omega))
 have hg6 := qq (show W.heap.size ≤ w5.heap.size from hb5.size)
 generalize World.setCell w6 _ _ = w7 at *
 clear a0 x0 a1 x1 a2 x2 a3 x3 a4 x4 a5 x5 a6 x6 a7 x7 y7 A5 X5 X6 C5 Z5 S5 hb5 hu7 hsh6 hfr6 hgr6 hO6
 obtain ⟨x0, x1, x2, x3, x4, x5, x6, x7⟩ := X7.a8
 obtain ⟨z0, z1, z2, z3, z4, z5, z6, z7⟩ := Z7.a8; obtain ⟨y0, y1, y2, y3, y4, y5, y6, y7⟩ := Z7.f8
 go_wp2
 have hv := Upd.at8 w7 (w.heap.size + 1) (.int .u8 kind) (.string name) (.int .u64 n) (.int .u32 xf) (.string xg) (.string xb) (.slice oa L.length oc) (.slice ta6 zy.length tc6)
 have K9 := Z7.fresh8 (.int .u8 kind) (.string name) (.int .u64 n) (.int .u32 xf) (.string xg) (.string xb) (.slice oa L.length oc) (.slice ta6 zy.length tc6)
 have C9 := C7.upd hv (fun k hk e => by have := hk.1; have := hz2.out; omega)
 have O9 := O7.upd hv (fun i hi e => by have := O7.ge hi; have := hg6.out; have := hz2.out; omega)
 unfold bck at hv K9 C9 O9
 obtain ⟨k0, k1, k2, k3, k4, k5, k6, k7⟩ := K9.a8
 refine bodyPost_ret (by simp [results, Tryz.results11, go_sem, k0, k1, k2, k3, k4, k5, k6, k7]; rfl) rfl ?_
 have hln := hlnh.out
 have he : (EnT.mk kind name n (xf, xg, xb) (.slice oa L.length oc) (.slice ta6 zy.length tc6) L zy).e = (EnT.mk kind name n (xf, xg, xb) (.slice pa zu.length pc) (.slice ta zy.length tc) zu zy).e := by show En.mk kind name n (xf, xg, xb) (L.map PtT.p) zy = En.mk kind name n (xf, xg, xb) (zu.map PtT.p) zy; rw [hmph.out]
 refine ⟨EnT.mk kind name n (xf, xg, xb) (.slice oa L.length oc) (.slice ta6 zy.length tc6) L zy, rfl, he, ?_, ?_, ?_, ?_, ?_⟩
 ·exact ⟨C9.o.slc aae, fun k e _ => by have := (C9.pP k e).1; have := hz2.out; omega, fun x hx => (C9.r x hx).weaken (fun k _ hk => by have := hk.1.1; have := hz2.out; omega), O9.slc aa9, fun k e n => by have := O9.ge e; have := hg6.out; have := hz2.out; omega, by rw [he]; exact hwf.out⟩
 ·exact (hB2h.out.trans (hb7.mono hB2h.out.size)).trans (hv.below (by have := hb7.size; have := hz2.out; omega) (fun k e => by omega))
 ·exact C9.o.rebase (fun k e => by have := (C9.pP k e).1; have := hz2.out; omega)
 ·exact O9.rebase (fun k e => by have := O9.ge e; have := hg6.out; have := hz2.out; omega)
 ·exact fun x hx => (C9.r x hx).weaken (fun k _ hk => ⟨by have := hk.1.1; have := hz2.out; omega, hk.2⟩)) : P := h
theorem avl (t : EnT) (P : Nat → Prop) (w : World) (hR : EnRd P w t) (hs : SmEn t) : Calls Tryz.prog 11 #[t.arg] w fun e w' => ∃ t' : EnT, e = .returned t'.arg ∧ t'.e = t.e ∧ EnRd (fun i => w.heap.size ≤ i) w' t' ∧ Below w.heap.size w w' ∧ Own w.heap.size 64 12 aat w' t'.pv t'.zu ∧ Own w.heap.size 68 2 abc w' t'.tv t'.zy ∧ ∀ x ∈ t'.zu, Rd (fun i => w.heap.size ≤ i ∧ t'.pv.ownBlock ≠ some i) w' x.pr.app := by
 have hwf := qq hR.wf
 have hnt := hs.nt; have hnp := hs.np; have hsp := hs.zu
 obtain ⟨kind, name, n, xf, xg, xb, pa, pc, ta, tc, zu, zy, rfl, hml, hmk⟩ := hR.open
 rw [EnT.arg_mk]
 have hnt : zy.length ≤ 110 := hnt
 have hnp : (zu.length : Int) ≤ 110 := hnp
 have hsph := qq (show ∀ x ∈ zu, SmPt x from hsp)
 have hnn := qq (show zy.length ≤ 110 ∧ (zu.length : Int) ≤ 110 from ⟨hnt, hnp⟩)
 clear hs hsp hml hmk hnt hnp
 have hB2 := ((qz w.heap.size w).alloc (qj _) (.cells #[.int .u8 kind, .string name, .int .u64 n, .int .u32 xf, .string xg, .string xb, .slice pa zu.length pc, .slice ta zy.length tc] 34)).alloc (by simp) (.cells #[.int .u8 0, .string ⟨#[]⟩, .int .u64 0, .int .u32 0, .string ⟨#[]⟩, .string ⟨#[]⟩, .slice none 0 0, .slice none 0 0] 34)
 have A2 := (Blk.new w [.int .u8 kind, .string name, .int .u64 n, .int .u32 xf, .string xg, .string xb, .slice pa zu.length pc, .slice ta zy.length tc] 34).alloc (.cells #[.int .u8 0, .string ⟨#[]⟩, .int .u64 0, .int .u32 0, .string ⟨#[]⟩, .string ⟨#[]⟩, .slice none 0 0, .slice none 0 0] 34)
 have Z2 := Blk.newK (w.alloc (.cells #[.int .u8 kind, .string name, .int .u64 n, .int .u32 xf, .string xg, .string xb, .slice pa zu.length pc, .slice ta zy.length tc] 34)) [.int .u8 0, .string ⟨#[]⟩, .int .u64 0, .int .u32 0, .string ⟨#[]⟩, .string ⟨#[]⟩, .slice none 0 0, .slice none 0 0] 34 (w.heap.size + 1) (by simp)
 have hz2 := qq (show ((w.alloc (.cells #[.int .u8 kind, .string name, .int .u64 n, .int .u32 xf, .string xg, .string xb, .slice pa zu.length pc, .slice ta zy.length tc] 34)).alloc (.cells #[.int .u8 0, .string ⟨#[]⟩, .int .u64 0, .int .u32 0, .string ⟨#[]⟩, .string ⟨#[]⟩, .slice none 0 0, .slice none 0 0] 34)).heap.size = w.heap.size + 2 by simp)
 have R2 := hR.pure hB2
 clear hR
 go_enter Tryz.func11, Tryz.ntmps11
 go_upto_region 1 with fail
 have hA2 := qq A2; have hZ2 := qq Z2; have hB2h := qq hB2; have hR2 := qq R2
 clear hB2 A2 Z2 R2
 generalize World.alloc (World.alloc w _) _ = W at *
 have hb := abn W
 refine wp_region_held_drew (S := fun u => Below W.heap.size W u) (by kernel_rfl) hb (fun zg => ?_)
 refine tkH 0 zg ?_
 refine tkF 1 zg ?_ (fun u hSw => (hA2.out.pure hSw).at 0 rfl)
 refine tkH 2 zg ?_
 refine tkF 3 zg ?_ (fun u hSw => (hA2.out.pure hSw).at 1 rfl)
 refine tkH 4 zg ?_
 refine tkF 5 zg ?_ (fun u hSw => (hA2.out.pure hSw).at 2 rfl)
 refine tkH 6 zg ?_
 refine tkF 7 zg ?_ (fun u hSw => And.intro ((hA2.out.pure hSw).at 3 rfl) (And.intro ((hA2.out.pure hSw).at 4 rfl) ((hA2.out.pure hSw).at 5 rfl)))
 refine tkH 8 zg ?_
 refine tkF 9 zg ?_ (fun u hSw => (hA2.out.pure hSw).at 6 rfl)
 refine wpAnyH_ready (rs := [10, 12]) (by kernel_rfl) (by simp) ?_
 refine (AllReadyH.cons rfl (fun K hK => ?_) (AllReadyH.cons rfl (fun K hK => ?_) AllReadyH.nil))
 ·go_simp
  go_at_call 26; refine (aex _ pa pc zu _ (hR2.out.pure hb).p hnn.out.2 (fun x hx => (hR2.out.pure hb).r x hx) hsph.out).mono ?_; rintro e w3 ⟨pv, L, rfl, hmp, hln, hC⟩; have hmph := qq hmp; have hlnh := qq hln; clear hmp hln; obtain ⟨oa, oc, rfl⟩ := aap hC.o; have C3 := hC.cpt; have hb := hb.trans (hC.b.mono hb.size); clear hC; refine hK.out _ _ hb (fun zg => ?_); clear hK K; (try simp only [Act.put, lsT, lsZ, lsS]); refine tkH 11 zg ?_; refine aai 12 rfl (fun K hK => ?_); go_simp; have hxw := qq hb.size; have hbA := qq hb; have X4 := Blk.new w3 [.int .u8 0, .string ⟨#[]⟩, .int .u64 0, .int .u32 0, .string ⟨#[]⟩, .string ⟨#[]⟩, .slice none 0 0, .slice none 0 0] 34; have C4 := C3.pure ((qz w3.heap.size w3).alloc (qj _) (.cells #[.int .u8 0, .string ⟨#[]⟩, .int .u64 0, .int .u32 0, .string ⟨#[]⟩, .string ⟨#[]⟩, .slice none 0 0, .slice none 0 0] 34)); have hb := hb.alloc hb.size (.cells #[.int .u8 0, .string ⟨#[]⟩, .int .u64 0, .int .u32 0, .string ⟨#[]⟩, .string ⟨#[]⟩, .slice none 0 0, .slice none 0 0] 34); refine hK.out _ _ hb (fun zg => ?_); clear hK K; (try simp only [Act.put, lsT, lsZ, lsS]); refine aai 13 rfl (fun K hK => ?_); go_simp; have X5 := Blk.new w3 [.int .u8 kind, .string name, .int .u64 n, .int .u32 xf, .string xg, .string xb, .slice oa L.length oc, .slice none 0 0] 34; have C5 := C3.pure ((qz w3.heap.size w3).alloc (qj _) (.cells #[.int .u8 kind, .string name, .int .u64 n, .int .u32 xf, .string xg, .string xb, .slice oa L.length oc, .slice none 0 0] 34)); have hb := hbA.out.alloc hbA.out.size (.cells #[.int .u8 kind, .string name, .int .u64 n, .int .u32 xf, .string xg, .string xb, .slice oa L.length oc, .slice none 0 0] 34); refine hK.out _ _ hb (fun zg => ?_); clear hK K; (try simp only [Act.put, lsT, lsZ, lsS]); refine wpAnyH_done (by kernel_rfl) ?_ _; have A5 := hA2.out.pure hb; have Z5 := hZ2.out.pure hb; have S5 := (hR2.out.pure hb).s; have hb5 := hb; have hxk := qq (show W.heap.size ≤ w3.heap.size by have := hxw.out; omega); have C5 := C5.weaken (Q := fun i => W.heap.size ≤ i ∧ i ≠ w3.heap.size) (fun k hk => by have h1 := hk.1; have h2 := hk.2; (try simp at h1); omega); clear C3 hb X4 C4 hxw hbA; generalize World.alloc w3 (.cells #[.int .u8 kind, .string name, .int .u64 n, .int .u32 xf, .string xg, .string xb, .slice oa L.length oc, .slice none 0 0] 34) = w5 at *; obtain ⟨a0, a1, a2, a3, a4, a5, a6, a7⟩ := A5.a8; obtain ⟨x0, x1, x2, x3, x4, x5, x6, x7⟩ := X5.a8; go_upto_region 3 with (at_builtin; refine aaj (base := w5.heap.size) rfl (.tmp 17) (.tmp 19) 32 68 rfl aqi aa9 ae8 _ ([] : List Rf) rfl Own.nil _ zy rfl S5 (by have := hnn.out.1; unfold maxLen; simp; omega) (by have := hnn.out.1; simp; omega) (qj _) ?_; intro kv w6 hO6 hgr6 hfr6 hsh6; rw [List.nil_append] at hO6; obtain ⟨ta6, tc6, rfl⟩ := aap hO6; have hB6 := (qz w5.heap.size w5).grown hgr6 (qj _) (fun j e => by cases e); have X6 := X5.pure hB6; have x7 := X6.at 7 rfl; have y7 := X6.frozen 7); have hu7 := Upd.set (S := fun k => k = w3.heap.size) (w := w6) (p := ⟨w3.heap.size, 7, none⟩) rfl (.slice ta6 zy.length tc6); have X7 : Blk _ w3.heap.size _ := X6.set 7 (.slice ta6 zy.length tc6); exact al2
 ·go_simp
  have X1 := Blk.new W.drew [.int .u8 0, .string ⟨#[]⟩, .int .u64 0, .int .u32 0, .string ⟨#[]⟩, .string ⟨#[]⟩, .slice none 0 0, .slice none 0 0] 34; have hb := hb.alloc hb.size (.cells #[.int .u8 0, .string ⟨#[]⟩, .int .u64 0, .int .u32 0, .string ⟨#[]⟩, .string ⟨#[]⟩, .slice none 0 0, .slice none 0 0] 34); refine hK.out _ _ hb (fun zg => ?_); clear hK K; (try simp only [Act.put, lsT, lsZ, lsS]); refine aai 10 rfl (fun K hK => ?_); go_simp; go_at_call 26; refine (aex _ pa pc zu _ (hR2.out.pure hb).p hnn.out.2 (fun x hx => (hR2.out.pure hb).r x hx) hsph.out).mono ?_; rintro e w3 ⟨pv, L, rfl, hmp, hln, hC⟩; have hmph := qq hmp; have hlnh := qq hln; clear hmp hln; obtain ⟨oa, oc, rfl⟩ := aap hC.o; have C3 := hC.cpt; have X3 : Blk w3 W.heap.size _ := X1.pure hC.b; obtain ⟨x0, x1, x2, x3, x4, x5, x6, x7⟩ := X3.a8; obtain ⟨y0, y1, y2, y3, y4, y5, y6, y7⟩ := X3.f8; have hb := hb.trans (hC.b.mono hb.size); clear hC; refine hK.out _ _ hb (fun zg => ?_); clear hK K; (try simp only [Act.put, lsT, lsZ, lsS]); refine tkH 11 zg ?_; refine aai 13 rfl (fun K hK => ?_); go_simp; have hx8 := Upd.at8 w3 W.heap.size (.int .u8 kind) (.string name) (.int .u64 n) (.int .u32 xf) (.string xg) (.string xb) (.slice oa L.length oc) (.slice none 0 0); have X5 := X3.fresh8 (.int .u8 kind) (.string name) (.int .u64 n) (.int .u32 xf) (.string xg) (.string xb) (.slice oa L.length oc) (.slice none 0 0); have C5 := C3.upd hx8 (fun k hk e => by have := hk.1; simp at this; omega); have hb := hb.trans (hx8.below hb.size (fun k e => by omega)); unfold bck at X5 C5 hb; refine hK.out _ _ hb (fun zg => ?_); clear hK K; (try simp only [Act.put, lsT, lsZ, lsS]); refine wpAnyH_done (by kernel_rfl) ?_ _; have A5 := hA2.out.pure hb; have Z5 := hZ2.out.pure hb; have S5 := (hR2.out.pure hb).s; have hb5 := hb; have hxk := qq (show W.heap.size ≤ W.heap.size by omega); have C5 := C5.weaken (Q := fun i => W.heap.size ≤ i ∧ i ≠ W.heap.size) (fun k hk => by have h1 := hk.1; have h2 := hk.2; (try simp at h1); omega); clear C3 hb X1 X3 hx8 x0 y0 x1 y1 x2 y2 x3 y3 x4 y4 x5 y5 x6 y6 x7 y7; generalize World.setCell (World.setCell (World.setCell (World.setCell (World.setCell (World.setCell (World.setCell (World.setCell _ _ _) _ _) _ _) _ _) _ _) _ _) _ _) _ _ = w5 at *; obtain ⟨a0, a1, a2, a3, a4, a5, a6, a7⟩ := A5.a8; obtain ⟨x0, x1, x2, x3, x4, x5, x6, x7⟩ := X5.a8; go_upto_region 3 with (at_builtin; refine aaj (base := w5.heap.size) rfl (.tmp 17) (.tmp 19) 32 68 rfl aqi aa9 ae8 _ ([] : List Rf) rfl Own.nil _ zy rfl S5 (by have := hnn.out.1; unfold maxLen; simp; omega) (by have := hnn.out.1; simp; omega) (qj _) ?_; intro kv w6 hO6 hgr6 hfr6 hsh6; rw [List.nil_append] at hO6; obtain ⟨ta6, tc6, rfl⟩ := aap hO6; have hB6 := (qz w5.heap.size w5).grown hgr6 (qj _) (fun j e => by cases e); have X6 := X5.pure hB6; have x7 := X6.at 7 rfl; have y7 := X6.frozen 7); have hu7 := Upd.set (S := fun k => k = W.heap.size) (w := w6) (p := ⟨W.heap.size, 7, none⟩) rfl (.slice ta6 zy.length tc6); have X7 : Blk _ W.heap.size _ := X6.set 7 (.slice ta6 zy.length tc6); exact al2
structure St.Len (s : St) (a m b h : Nat) : Prop where
 q : s.qs.length ≤ a
 m : ∀ q ∈ s.qs, q.zw.length ≤ m
 b : s.zk.length ≤ b
 h : s.hs.length ≤ h
theorem SmSt.len {t : StT} (h : SmSt t) : t.s.Len 12 40 12 40 :=
 ⟨by show (t.qs.map QuT.q).length ≤ 12; rw [jf]; exact h.q, fun q hq => by
  obtain ⟨y, hy, rfl⟩ := jv.1 hq; show (y.zw.map MsT.m).length ≤ 40
  rw [jf]; exact (h.qs y hy).l, by show (t.zk.map BrT.b).length ≤ 12; rw [jf]; exact h.b, h.h⟩
theorem St.Len.sm {s : St} {a m b h : Nat} (k : s.Len a m b h) {t : StT} (e : t.s = s) (ha : a ≤ 100) (hm : m ≤ 100) (hb : b ≤ 100) (hh : h ≤ 100) : StSm t :=
 alz e (jk k.q ha) (fun q hq => jk (k.m q hq) hm) (jk k.b hb) (jk k.h hh)
theorem avm {qs : List Qu} {n : ByteArray} {f : List Ms → List Ms} {M N : Nat} (h : ∀ q ∈ qs, q.zw.length ≤ M) (hf : ∀ l : List Ms, l.length ≤ M → (f l).length ≤ N) (hMN : M ≤ N) : ∀ q ∈ amb qs n f, q.zw.length ≤ N := by
 intro q hq
 obtain ⟨y, hy, rfl⟩ := jv.1 hq
 by_cases e : y.name = n
 ·rw [qw e]; exact hf _ (h y hy)
 ·rw [qk e]; exact jk (h y hy) hMN
theorem aqx {qs : List Qu} {n : ByteArray} {f : List Ms → List Ms} : (amb qs n f).length = qs.length := jf _
theorem ams {M : Nat} : ∀ (l : List Rf) (qs : List Qu), (∀ q ∈ qs, q.zw.length ≤ M) → (l.foldl ad9 qs).length = qs.length ∧ ∀ q ∈ l.foldl ad9 qs, q.zw.length ≤ M
 | [], qs, h => ⟨rfl, h⟩
 | r :: l, qs, h => by
  have := ams l (ad9 qs r) (avm h (fun l hl => jk (List.length_filter_le _ l) hl) (qj _)); exact ⟨this.1.trans aqx, this.2⟩
theorem avn : ∀ (l : List Pt) {s : St} {a m b h : Nat}, s.Len a m b h → (l.foldl aod s).Len a (m + l.length) b h
 | [], s, a, m, b, h, k => k
 | p :: l, s, a, m, b, h, k => by
  have hq : (aod s p).qs = amb s.qs p.q (fun l => l ++ [⟨p.id, p.pr, p.body⟩]) := rfl; have k1 : (aod s p).Len a (m + 1) b h := ⟨by rw [hq, aqx]; exact k.q, by rw [hq]; exact avm k.m (fun l hl => by rw [jz, List.length_singleton]; omega) (Nat.le_succ m), k.b, k.h⟩; have h2 := avn l k1; have e : m + (p :: l).length = m + 1 + l.length := by rw [jn]; omega
  rw [e]; exact h2
theorem bak {s : St} {a m b h : Nat} (k : s.Len a m b h) (zu : List Pt) (zy : List Rf) : (s.work zu zy).Len a (m + zu.length) b h :=
 avn zu ⟨by have := (ams zy s.qs k.m).1; show (zy.foldl ad9 s.qs).length ≤ a; rw [this]; exact k.q, (ams zy s.qs k.m).2, k.b, k.h⟩
theorem bal {s : St} {a m b h : Nat} (k : s.Len a m b h) (l : List Rf) : St.Len { s with qs := ab8 s.qs l } a m b h :=
 ⟨by show (ab8 s.qs l).length ≤ a; unfold ab8; rw [jf]; exact k.q, fun q hq => by
  obtain ⟨y, hy, rfl⟩ := jv.1 hq; show (y.zw.map _).length ≤ m
  rw [jf]; exact k.m y hy, k.b, k.h⟩
theorem bce {s : St} {a m b h : Nat} (k : s.Len a m b h) (i : Nat) (c : Br) : St.Len { s with zk := abj s.zk i c } a m (b + 1) h :=
 ⟨k.q, k.m, by
  show (abj s.zk i c).length ≤ b + 1
  have := k.b; unfold abj
  rw [jz, jn, List.length_take, List.length_drop]; omega, k.h⟩
theorem StRd.low {P : Nat → Prop} {w : World} {t : StT} (h : StRd P w t) : StRd (fun i => i < w.heap.size) w t :=
 ⟨h.q, fun k e n => aez aaf (by omega) h.q n k e, fun q hq => ⟨(h.m q hq).s, fun k e n => aez aac (by omega) (h.m q hq).s n k e, fun m hm => ((h.m q hq).r m hm).lt.weaken (fun i hi _ => hi), (h.m q hq).wf⟩,
  h.b, fun k e n => aez aag (by omega) h.b n k e, fun b hb => (h.e b hb).below (qj _), h.h, fun k e n => aez adi (by omega) h.h n k e, h.n, h.ql, h.hx⟩
theorem bdt {B : Nat} {w : World} {ek ei n : Int} {en : ByteArray} {x : Xn} {pv tv : Value} {zu : List PtT} {zy : List Rf} (hn : 0 ≤ n ∧ n ≤ 1099511627777) (hl : zu.length ≤ 20)
 (hwf : (EnT.mk ek en ei x pv tv zu zy).e.Wf) (hp : Own B 64 12 aat w pv (aha zu n zu.length)) (ht : Own B 68 2 abc w tv zy) (hr : ∀ x ∈ zu, Rd (fun i => B ≤ i ∧ pv.ownBlock ≠ some i) w x.pr.app) :
 EnRd (fun i => B ≤ i) w ⟨3, en, ei, Xn.zero, pv, tv, aha zu n zu.length, zy⟩ := by
 have hx : ∀ y ∈ aha zu n zu.length, ∃ z ∈ zu, y.pr = z.pr ∧ 0 ≤ y.id ∧ y.id < 18446744073709551616 := fun y hy => by
  obtain ⟨i, hi, rfl⟩ := List.getElem_of_mem hy; have hi' : i < zu.length := by rw [ade] at hi; exact hi
  rw [afu hi', qw hi']; exact ⟨zu[i], qy hi', rfl, by show 0 ≤ n + (i : Int); omega, by show n + (i : Int) < _; omega⟩
 refine ⟨hp.slc aae, fun k e _ => hp.ge e, fun y hy => ?_, ht.slc aa9, fun k e _ => ht.ge e, ?_⟩
 ·obtain ⟨z, hz, e, -⟩ := hx y hy
  rw [e]; exact (hr z hz).weaken (fun i _ hi => hi.1)
 ·exact ⟨by show (0 : Int) ≤ 3; omega, by show (3 : Int) < 256; omega, hwf.n0, hwf.n1, by show (0 : Int) ≤ 0; omega, by show (0 : Int) < _; omega, fun p hp => by
   obtain ⟨y, hy, rfl⟩ := jv.1 hp; obtain ⟨z, hz, e, h1⟩ := hx y hy; refine ⟨h1.1, h1.2, ?_⟩; show y.pr.p.app.Wf
   rw [e]
   exact (hwf.p z.p (jw hz)).2.2, hwf.t⟩
theorem bcf {w u x y : World} (h1 : Below w.heap.size w u) (h2 : Below u.heap.size u x) (h3 : Below x.heap.size x y) : Below w.heap.size w y := h1.trans ((h2.trans (h3.mono h2.size)).mono h1.size)
theorem aoa {P : Prop} (h : P := by
 go_wp2_with (go_at_call 9; (with_reducible refine (ahc hCkh.out _ (hTh.out.pure D16)).mono ?_); rintro e w9 ⟨rfl, hB9⟩)
 go_ret
 exact ⟨rfl, bcf hBw.out D16 hB9⟩) : P := h
theorem akl {P : Prop} (h : P := by
 go_wp2_with (go_at_call 9; (with_reducible refine (ahc hCkh.out _ (hTh.out.pure hB5)).mono ?_); rintro e w9 ⟨rfl, hB9⟩)
 go_ret
 exact ⟨rfl, bcf hBw.out hB5 hB9⟩) : P := h
theorem bcg (hCk : ayk) (w : World) (t : StT) (e : EnT) (P P2 : Nat → Prop) (hR : StRd P w t) (hE : EnRd P2 w e) (hT : Tb w) : Calls Tryz.prog 6 #[t.arg, e.arg] w fun r w' => r = .returned (.bool true) ∧ Below w.heap.size w w' := by
 obtain ⟨nx, qa, qc, ba, bc, ha, hc, qs, zk, hs, rfl, -, -, -⟩ := hR.open
 obtain ⟨ek, en, ei, xf, xg, xb, pa, pc, ta, tc, zu, zy, rfl, -, -⟩ := hE.open
 rw [StT.arg_mk]
 show Calls _ _ #[_, .agg #[.int .u8 ek, .string en, .int .u64 ei, .int .u32 xf, .string xg, .string xb, .slice pa zu.length pc, .slice ta zy.length tc]] w _
 have hB2 := ((qz w.heap.size w).alloc (qj _) (.cells #[.int .u64 nx, .slice qa qs.length qc, .slice ba zk.length bc, .slice ha hs.length hc] 27)).alloc (by simp) (.cells #[.int .u8 ek, .string en, .int .u64 ei, .int .u32 xf, .string xg, .string xb, .slice pa zu.length pc, .slice ta zy.length tc] 34)
 have A2 : Blk ((w.alloc (.cells #[.int .u64 nx, .slice qa qs.length qc, .slice ba zk.length bc, .slice ha hs.length hc] 27)).alloc (.cells #[.int .u8 ek, .string en, .int .u64 ei, .int .u32 xf, .string xg, .string xb, .slice pa zu.length pc, .slice ta zy.length tc] 34)) w.heap.size [.int .u64 nx, .slice qa qs.length qc, .slice ba zk.length bc, .slice ha hs.length hc] := (Blk.new w [.int .u64 nx, .slice qa qs.length qc, .slice ba zk.length bc, .slice ha hs.length hc] 27).alloc _
 have E2 : Blk ((w.alloc (.cells #[.int .u64 nx, .slice qa qs.length qc, .slice ba zk.length bc, .slice ha hs.length hc] 27)).alloc (.cells #[.int .u8 ek, .string en, .int .u64 ei, .int .u32 xf, .string xg, .string xb, .slice pa zu.length pc, .slice ta zy.length tc] 34)) (w.heap.size + 1) [.int .u8 ek, .string en, .int .u64 ei, .int .u32 xf, .string xg, .string xb, .slice pa zu.length pc, .slice ta zy.length tc] := Blk.newE (w.alloc (.cells #[.int .u64 nx, .slice qa qs.length qc, .slice ba zk.length bc, .slice ha hs.length hc] 27)) [.int .u8 ek, .string en, .int .u64 ei, .int .u32 xf, .string xg, .string xb, .slice pa zu.length pc, .slice ta zy.length tc] 34 (w.heap.size + 1) (by simp)
 have hCkh := qq hCk; have hTh := qq (hT.pure hB2); have hRh := qq (hR.pure hB2); have hEh := qq (hE.pure hB2)
 clear hCk hT hR hE
 obtain ⟨u, hu⟩ := zj ((w.alloc (.cells #[.int .u64 nx, .slice qa qs.length qc, .slice ba zk.length bc, .slice ha hs.length hc] 27)).alloc (.cells #[.int .u8 ek, .string en, .int .u64 ei, .int .u32 xf, .string xg, .string xb, .slice pa zu.length pc, .slice ta zy.length tc] 34))
 rw [← hu] at hB2 A2 E2 hTh hRh hEh
 have huh := qq hu
 clear hu
 go_enter Tryz.func6, Tryz.ntmps6
 go_upto_region 1 with fail
 rw [← huh.out]
 have hBw := qq hB2
 clear huh hB2
 obtain ⟨s0, s1, s2, s3⟩ := A2.a4; obtain ⟨e0, e1, e2, e3, e4, e5, e6, e7⟩ := E2.a8
 obtain ⟨Q1, hQ1⟩ := zz (SmSt (StT.mk nx (.slice qa qs.length qc) (.slice ba zk.length bc) (.slice ha hs.length hc) qs zk hs))
 obtain ⟨Q2, hQ2⟩ : ∃ Q, ([(EnT.mk ek en ei (xf, xg, xb) (.slice pa zu.length pc) (.slice ta zy.length tc) zu zy)].length ≤ 30 ∧ ∀ e ∈ [(EnT.mk ek en ei (xf, xg, xb) (.slice pa zu.length pc) (.slice ta zy.length tc) zu zy)], SmE e) = Q := ⟨_, rfl⟩
 have hgr := fun (y : World) (g : Nat) (hb : Blk y g [.int .u8 ek, .string en, .int .u64 ei, .int .u32 xf, .string xg, .string xb, .slice pa zu.length pc, .slice ta zy.length tc]) (h : Below u.heap.size u y) => avk y (.slice (some ⟨g, 0, none⟩) 1 1) [(EnT.mk ek en ei (xf, xg, xb) (.slice pa zu.length pc) (.slice ta zy.length tc) zu zy)] P2 ⟨aik hb, fun x hx => by rw [jc.1 hx]; exact hEh.out.pure h⟩
 have hsm := apt (StT.mk nx (.slice qa qs.length qc) (.slice ba zk.length bc) (.slice ha hs.length hc) qs zk hs) P u hRh.out
 rw [hQ1, StT.arg_mk] at hsm
 rw [hQ2] at hgr
 have hsmh := qq hsm; have hgrh := qq hgr; have hQ1h := qq hQ1; have hQ2h := qq hQ2
 clear hsm hgr hQ1 hQ2
 go_wp2_with fail
 refine hsmh.out.mono ?_
 rintro e u2 ⟨⟨b, rfl, hb⟩, hB2⟩
 have hbh := qq hb
 clear hb s0 s1 s2 s3 e0 e1 e2 e3 e4 e5 e6 e7
 cases b
 ·go_wp2_with (go_at_call 9; (with_reducible refine (ahc hCkh.out _ (hTh.out.pure hB2)).mono ?_); rintro e w9 ⟨rfl, hB9⟩)
  go_ret; exact ⟨rfl, bcf hBw.out hB2 hB9⟩
 have hSt := qq (show SmSt (StT.mk nx (.slice qa qs.length qc) (.slice ba zk.length bc) (.slice ha hs.length hc) qs zk hs) by rw [hQ1h.out]; have h := hbh.out; simpa using h)
 clear hbh hsmh hQ1h
 have A3 := A2.pure hB2; have E3 := E2.pure hB2
 obtain ⟨e0, e1, e2, e3, e4, e5, e6, e7⟩ := E3.a8
 have N3 := Blk.new u2 [.int .u8 ek, .string en, .int .u64 ei, .int .u32 xf, .string xg, .string xb, .slice pa zu.length pc, .slice ta zy.length tc] 34
 have hB3 := hB2.alloc hB2.size (.cells #[.int .u8 ek, .string en, .int .u64 ei, .int .u32 xf, .string xg, .string xb, .slice pa zu.length pc, .slice ta zy.length tc] 34)
 go_wp2_with fail
 refine (hgrh.out _ u2.heap.size N3 hB3).mono ?_
 rintro e u3 ⟨⟨b, rfl, hb⟩, hB4⟩
 have hB5 := hB3.trans (hB4.mono hB3.size)
 have hbh := qq hb
 clear hb e0 e1 e2 e3 e4 e5 e6 e7
 cases b
 rotate_left 1
 ·exact akl
 have hSe := qq (show SmE (EnT.mk ek en ei (xf, xg, xb) (.slice pa zu.length pc) (.slice ta zy.length tc) zu zy) from by
  have h : Q2 := by have h := hbh.out; simpa using h
  rw [← hQ2h.out] at h
  exact h.2 _ (jc.2 rfl))
 clear hbh hgrh hQ2h N3
 have A5 := (A3.alloc (.cells #[.int .u8 ek, .string en, .int .u64 ei, .int .u32 xf, .string xg, .string xb, .slice pa zu.length pc, .slice ta zy.length tc] 34)).pure hB4; have E5 := (E3.alloc (.cells #[.int .u8 ek, .string en, .int .u64 ei, .int .u32 xf, .string xg, .string xb, .slice pa zu.length pc, .slice ta zy.length tc] 34)).pure hB4
 clear A2 E2 A3 E3
 obtain ⟨e0, e1, e2, e3, e4, e5, e6, e7⟩ := E5.a8
 by_cases hk : ek = 4
 rotate_left 1
 ·exact akl
 subst hk
 obtain ⟨S, hS⟩ := zj ((StT.mk nx (.slice qa qs.length qc) (.slice ba zk.length bc) (.slice ha hs.length hc) qs zk hs).s)
 obtain ⟨E, hE⟩ := zj ((EnT.mk 4 en ei (xf, xg, xb) (.slice pa zu.length pc) (.slice ta zy.length tc) zu zy).e)
 obtain ⟨f, hf⟩ := zj ((S.ap E).2)
 have hr1 : Calls Tryz.prog 12 #[.agg #[.int .u64 nx, .slice qa qs.length qc, .slice ba zk.length bc, .slice ha hs.length hc], .agg #[.int .u8 4, .string en, .int .u64 ei, .int .u32 xf, .string xg, .string xb, .slice pa zu.length pc, .slice ta zy.length tc]] u3 (fun r w' => ∃ t' : StT, r = .returned (.tuple #[t'.arg, .int .i64 f]) ∧ t'.s = (S.ap E).1 ∧ StOw u3.heap.size w' t' ∧ Below u3.heap.size u3 w') := by
  rw [hf, hS, hE]; exact an7 hCkh.out au7 u3 (StT.mk nx (.slice qa qs.length qc) (.slice ba zk.length bc) (.slice ha hs.length hc) qs zk hs) (EnT.mk 4 en ei (xf, xg, xb) (.slice pa zu.length pc) (.slice ta zy.length tc) zu zy) _ ((hRh.out.pure hB5).weaken (fun _ _ => trivial)) ((hEh.out.pure hB5).weaken (fun _ _ => trivial)) (hTh.out.pure hB5) hSt.out.sm
 have h1 := qq hr1
 have hSh := qq hS; have hEEh := qq hE; have hfh := qq hf
 clear hr1 hS hE hf
 obtain ⟨s0, s1, s2, s3⟩ := A5.a4
 go_upto_region 4 with (go_at_call 12; (with_reducible refine h1.out.mono ?_); rintro e u4 ⟨t1, rfl, hz1, hO1, hB1⟩; obtain ⟨n1, qa1, qc1, ba1, bc1, ha1, hc1, qs1, brs1, hs1, rfl⟩ := hO1.open; rw [StT.arg_mk]; have ht1 := qq hz1; clear hz1)
 clear s0 s1 s2 s3 e0 e1 e2 e3 e4 e5 e6 e7 h1
 have hB7 := hB5.trans (hB1.mono hB5.size)
 have hal1 := (qz u4.heap.size u4).alloc (qj _) (.cells #[.int .u64 n1, .slice qa1 qs1.length qc1, .slice ba1 brs1.length bc1, .slice ha1 hs1.length hc1] 27)
 have S1 := Blk.new u4 [.int .u64 n1, .slice qa1 qs1.length qc1, .slice ba1 brs1.length bc1, .slice ha1 hs1.length hc1] 27
 have D1 := hB7.trans (hal1.mono hB7.size)
 have O1 := hO1.upd (Upd.of_below (S := fun _ => False) hal1) (fun _ e => e.elim)
 have A6 := (A5.pure hB1).pure hal1; have E6 := (E5.pure hB1).pure hal1
 obtain ⟨u5, hu5⟩ := zj (u4.alloc (.cells #[.int .u64 n1, .slice qa1 qs1.length qc1, .slice ba1 brs1.length bc1, .slice ha1 hs1.length hc1] 27))
 rw [← hu5] at S1 D1 O1 A6 E6 ⊢
 clear hu5 hal1 hB7 hO1 hB1 A5 E5 hB2 hB3 hB4
 by_cases hf0 : f = 0
 rotate_left 1
 ·go_wp2_with (go_at_call 9; (with_reducible refine (ahc hCkh.out _ (hTh.out.pure D1)).mono ?_); rintro e w9 ⟨rfl, hB9⟩)
  go_ret; exact ⟨rfl, bcf hBw.out D1 hB9⟩
 subst hf0
 have hPd := qq (show Prepd S E from bc0 (by rw [hEEh.out]; rfl) hfh.out.symm)
 clear hfh
 have hSl := qq (show S.Len 12 40 12 40 by rw [hSh.out]; exact hSt.out.len)
 have hSm1 := qq (show StSm (StT.mk n1 (.slice qa1 qs1.length qc1) (.slice ba1 brs1.length bc1) (.slice ha1 hs1.length hc1) qs1 brs1 hs1) from (bce hSl.out (lbK aav Br.x S.zk E.x) ⟨E.x, E.zu, E.zy⟩).sm (ht1.out.trans (by rw [hPd.out.ap])) (by omega) (by omega) (by omega) (by omega))
 obtain ⟨e0, e1, e2, e3, e4, e5, e6, e7⟩ := E6.a8
 have zx := ahk
 go_upto_region 7 with fail
 have hal2 := (qz u5.heap.size u5).alloc (qj _) (.cells #[.int .u32 0, .string ⟨#[]⟩, .string ⟨#[]⟩] 30)
 have X6 := Blk.new u5 [.int .u32 0, .string ⟨#[]⟩, .string ⟨#[]⟩] 30
 have D2 := D1.trans (hal2.mono D1.size)
 have R2 := (O1.rd.low).pure hal2
 have S1l := qq (show u4.heap.size < u5.heap.size from S1.lt)
 have A7 := A6.pure hal2; have E7 := E6.pure hal2; have S2 := S1.pure hal2
 obtain ⟨u6, hu6⟩ := zj (u5.alloc (.cells #[.int .u32 0, .string ⟨#[]⟩, .string ⟨#[]⟩] 30))
 rw [← hu6] at X6 D2 R2 A7 E7 S2 ⊢
 have E6l := qq (show w.heap.size + 1 < u5.heap.size from E6.lt)
 clear hu6 hal2 zx e0 e1 e2 e3 e4 e5 e6 e7 A6 E6 S1 O1
 obtain ⟨e0, e1, e2, e3, e4, e5, e6, e7⟩ := E7.a8
 have htl : zy.length ≤ 20 := hSe.out.t
 obtain ⟨cl, hcl⟩ := zz (decide (0 < zy.length))
 have hclh := qq hcl
 go_upto_if 44 with fail
 clear e0 e1 e2 e3 e4 e5 e6 e7
 go_cut [8] from 45 to 53 (fun s8 wx => s8 = .bool cl ∧ Upd (fun i => i = u5.heap.size) u6 wx ∧ (cl = true → Blk wx u5.heap.size [.int .u32 xf, .string xg, .string xb]))
 case first =>
  by_cases hl0 : 0 < zy.length
  rotate_left 1
  ·obtain rfl : cl = false := by rw [← hclh.out]; exact qg hl0
   clear hcl; go_wp2; go_meet; exact ⟨rfl, Upd.refl _ _, fun h => nomatch h⟩
  obtain rfl : cl = true := by rw [← hclh.out]; exact qp hl0
  clear hcl; obtain ⟨e0, e1, e2, e3, e4, e5, e6, e7⟩ := E7.a8; have hl0i : (0 : Int) < (zy.length : Int) := by omega
  have hts := qq (hEh.out.pure D2).s; obtain ⟨gt, offt, rfl⟩ := hts.out.addrB hl0; obtain ⟨rq, rid, hrx, -, -⟩ := ado hts.out hl0; have hrc := qq (fun (v : World) (h : Below u6.heap.size u6 v) => show v.cell? ⟨gt, offt, none⟩ = some (.string rq) ∧ v.cell? ⟨gt, offt + 1, none⟩ = some (.int .u64 rid) from ⟨(hts.out.pure h).get 0 hl0 0 (.string rq) (by rw [hrx]; rfl), (hts.out.pure h).get 0 hl0 1 (.int .u64 rid) (by rw [hrx]; rfl)⟩)
  have hlq : (StT.mk n1 (.slice qa1 qs1.length qc1) (.slice ba1 brs1.length bc1) (.slice ha1 hs1.length hc1) qs1 brs1 hs1).s.lock ⟨rq, rid⟩ = some (xf, xg, xb) := by
   rw [ht1.out]; have h := arf hPd.out (r := zy[0]) (by rw [hEEh.out]; exact qy hl0); rw [hrx] at h; rw [h, hEEh.out]; rfl
  have hlk := qq (show ∀ v : World, Below u6.heap.size u6 v → Calls Tryz.prog 18 #[.agg #[.int .u64 n1, .slice qa1 qs1.length qc1, .slice ba1 brs1.length bc1, .slice ha1 hs1.length hc1], .agg #[.string rq, .int .u64 rid]] v (fun r w' => r = .returned (.tuple #[.agg #[.int .u32 xf, .string xg, .string xb], .bool true]) ∧ Below v.heap.size v w') from fun v h => by
   have h2 := an9 hCkh.out v (StT.mk n1 (.slice qa1 qs1.length qc1) (.slice ba1 brs1.length bc1) (.slice ha1 hs1.length hc1) qs1 brs1 hs1) rq rid _ (R2.pure h) (hTh.out.pure (D2.trans (h.mono D2.size))) hSm1.out; rw [hlq] at h2
   exact h2)
  clear hlq hrx; go_upto_region 8 with fail; have hb := adl (qz u6.heap.size u6); refine acb (fun v => Below u6.heap.size u6 v) 9 hb (fun zg => ?_); refine tkG 0 zg ?_ (fun v hSw => (S2.pure hSw).a4); refine tkU 1 zg ?_; refine tkG 2 zg ?_ (fun v hSw => (E7.pure hSw).at 7 rfl); refine tkU 3 zg ?_; refine tkG 4 zg ?_ (fun v hSw => hrc.out _ hSw); refine aiu 5 rfl (fun Kq hKq => ?_); go_simp
  (go_at_call 18; (with_reducible refine (hlk.out _ hb).mono ?_); rintro e w7 ⟨rfl, hB8⟩)
  have hb : Below u6.heap.size u6 w7 := hb.trans (hB8.mono hb.size); refine hKq.out _ _ hb (fun zg => ?_); clear hKq Kq; (try simp only [Act.put, lsT, lsZ, lsS]); refine tkU 6 zg ?_; refine tkU 7 zg ?_; refine tkP 8 zg ?_; have X7 := X6.pure hb; obtain ⟨x0, x1, x2⟩ := X7.a3; obtain ⟨xf0, xf1, xf2⟩ := X7.f3; refine aq2 9 rfl (fun Kq hKq => ?_); go_simp; have X8 : Blk (((w7.setCell ⟨u5.heap.size, 0, none⟩ (.int .u32 xf)).setCell ⟨u5.heap.size, 1, none⟩ (.string xg)).setCell ⟨u5.heap.size, 2, none⟩ (.string xb)) u5.heap.size [.int .u32 xf, .string xg, .string xb] := ((X7.set 0 (.int .u32 xf)).set 1 (.string xg)).set 2 (.string xb); have hU8 : Upd (fun i => i = u5.heap.size) w7 (((w7.setCell ⟨u5.heap.size, 0, none⟩ (.int .u32 xf)).setCell ⟨u5.heap.size, 1, none⟩ (.string xg)).setCell ⟨u5.heap.size, 2, none⟩ (.string xb)) := ab6 u5.heap.size [.int .u32 xf, .string xg, .string xb] 0 w7; obtain ⟨w8, hw8⟩ := zj (((w7.setCell ⟨u5.heap.size, 0, none⟩ (.int .u32 xf)).setCell ⟨u5.heap.size, 1, none⟩ (.string xg)).setCell ⟨u5.heap.size, 2, none⟩ (.string xb)); rw [← hw8] at X8 hU8 ⊢; clear hw8; refine hKq.out _ _ ?_; clear hKq Kq; (try simp only [Act.put, lsT, lsZ, lsS]); refine aq2 10 rfl (fun Kq hKq => ?_); go_simp; refine hKq.out _ _ ?_; clear hKq Kq; (try simp only [Act.put, lsT, lsZ, lsS]); refine asc ?_; have hU6 := (Upd.of_below (S := fun i => i = u5.heap.size) hb).trans hU8 (fun _ e _ => e); go_wp2; go_meet; exact ⟨rfl, hU6, fun _ => X8⟩
 case rest =>
 obtain ⟨rfl, hU6, hX8⟩ := hcut
 obtain ⟨w8, rfl⟩ := zj wc
 have A8 := A7.upd hU6 (fun e => by have e : w.heap.size = u5.heap.size := e; have := E6l.out; omega)
 have E8 := E7.upd hU6 (fun e => by have e : w.heap.size + 1 = u5.heap.size := e; have := E6l.out; omega)
 have S8 := S2.upd hU6 (fun e => by have e : u4.heap.size = u5.heap.size := e; have := S1l.out; omega)
 have R8 := R2.upd hU6 (fun k (hk : k < u5.heap.size) e => by have e : k = u5.heap.size := e; omega)
 have D8 := D2.trans (hU6.below D2.size (fun k e => by have e : k = u5.heap.size := e; rw [e]; exact D1.size))
 clear A7 E7 S2 R2 hU6 D2 E6l S1l X6
 obtain ⟨e0, e1, e2, e3, e4, e5, e6, e7⟩ := E8.a8
 go_upto_region 9 with fail
 go_cut [68] from 54 to 67 (fun s68 wx => s68 = .bool false ∧ wx = w8)
 case first =>
  cases cl
  ·go_wp2
   go_meet; exact ⟨rfl, rfl⟩
  ·have X8 := hX8 rfl
   obtain ⟨z0, z1, z2⟩ := X8.a3; go_wp2; go_meet; exact ⟨rfl, rfl⟩
 case rest =>
 obtain ⟨rfl, rfl⟩ := hcut
 clear hX8 hcl hclh
 have hEx : E.x = (xf, xg, xb) := by rw [hEEh.out]; rfl
 have hxw : 0 ≤ xf ∧ xf < 4294967296 := ⟨hEh.out.wf.x0, hEh.out.wf.x1⟩
 have hbk : (S.ap E).1.ap (amf (xf, xg, xb)) = ({ S with qs := ab8 S.qs zy }, 0) := by
  have h := arh (by rw [hEEh.out]; rfl) hPd.out; rw [hEx] at h; rw [h, hEEh.out]; rfl
 have hr2 : Calls Tryz.prog 12 #[.agg #[.int .u64 n1, .slice qa1 qs1.length qc1, .slice ba1 brs1.length bc1, .slice ha1 hs1.length hc1], .agg #[.int .u8 6, .string ⟨#[]⟩, .int .u64 0, .int .u32 xf, .string xg, .string xb, .slice none 0 0, .slice none 0 0]] wc _ := afd hCkh.out au8 wc (StT.mk n1 (.slice qa1 qs1.length qc1) (.slice ba1 brs1.length bc1) (.slice ha1 hs1.length hc1) qs1 brs1 hs1) ⟨6, ⟨#[]⟩, 0, (xf, xg, xb), .slice none 0 0, .slice none 0 0, [], []⟩ _ R8 (an8 wc 6 0 ⟨#[]⟩ (xf, xg, xb) (by omega) (by omega) hxw) (hTh.out.pure D8) hSm1.out ht1.out hbk
 have h2 := qq hr2
 have hxwh := qq hxw; have hExh := qq hEx
 clear hr2 hbk hxw hEx
 obtain ⟨s0, s1, s2, s3⟩ := S8.a4
 go_upto_region 12 with (go_at_call 12; (with_reducible refine h2.out.mono ?_); rintro e w9 ⟨t2, rfl, hz2, hO2, hB2⟩; obtain ⟨n2, qa2, qc2, ba2, bc2, ha2, hc2, qs2, brs2, hs2, rfl⟩ := hO2.open; rw [StT.arg_mk]; have ht2 := qq hz2; clear hz2)
 clear s0 s1 s2 s3 e0 e1 e2 e3 e4 e5 e6 e7 h2
 have hal3 := (qz w9.heap.size w9).alloc (qj _) (.cells #[.int .u64 n2, .slice qa2 qs2.length qc2, .slice ba2 brs2.length bc2, .slice ha2 hs2.length hc2] 27)
 have T10 := Blk.new w9 [.int .u64 n2, .slice qa2 qs2.length qc2, .slice ba2 brs2.length bc2, .slice ha2 hs2.length hc2] 27
 have hb3 := hB2.trans (hal3.mono hB2.size)
 have D10 := D8.trans (hb3.mono D8.size)
 have A10 := A8.pure hb3; have E10 := E8.pure hb3; have S10 := S8.pure hb3; have R10 := R8.pure hb3
 have Q10 := hO2.rd.pure hal3
 obtain ⟨v0, hv0⟩ := zj (w9.alloc (.cells #[.int .u64 n2, .slice qa2 qs2.length qc2, .slice ba2 brs2.length bc2, .slice ha2 hs2.length hc2] 27))
 rw [← hv0] at T10 D10 A10 E10 S10 R10 Q10 ⊢
 clear hv0 hal3 hb3 hB2 hO2 A8 E8 S8 R8 D8
 have hmk := qq (show ∀ v : World, Below v0.heap.size v0 v → Calls Tryz.prog 21 #[.agg #[.int .u64 nx, .slice qa qs.length qc, .slice ba zk.length bc, .slice ha hs.length hc], .slice ta zy.length tc] v _ from fun v h => ar5 v (StT.mk nx (.slice qa qs.length qc) (.slice ba zk.length bc) (.slice ha hs.length hc) qs zk hs) P ta tc zy (hRh.out.pure (D10.trans (h.mono D10.size))) hSt.out (hEh.out.pure (D10.trans (h.mono D10.size))).s hSe.out.t)
 have hSmB := qq (bal hSl.out zy)
 have hSm2 := qq (hSmB.out.sm ht2.out (by omega) (by omega) (by omega) (by omega))
 go_upto_region 12 with fail
 have hb := aan (qz v0.heap.size v0)
 refine aal (fun v => Below v0.heap.size v0 v) hb (fun zg => ?_)
 refine tkH 0 zg ?_
 refine tkH 1 zg ?_
 refine tkH 2 zg ?_
 refine tkF 3 zg ?_ (fun v hSw => (T10.pure hSw).a4)
 refine tkF 4 zg ?_ (fun v hSw => (A10.pure hSw).a4)
 refine tkH 5 zg ?_
 refine tkF 6 zg ?_ (fun v hSw => (E10.pure hSw).at 7 rfl)
 refine aai 7 rfl (fun Kq hKq => ?_)
 go_simp
 (go_at_call 21; (with_reducible refine (hmk.out _ hb).mono ?_); rintro e w10 ⟨t3, rfl, hz3, hR3, hB3⟩; obtain ⟨n3, qa3, qc3, ba3, bc3, ha3, hc3, qs3, brs3, hs3, rfl, -, -, -⟩ := hR3.open; rw [StT.arg_mk]; have ht3 := qq hz3; clear hz3)
 have hb := hb.trans (hB3.mono hb.size)
 refine hKq.out _ _ hb (fun zg => ?_)
 clear hKq Kq
 (try simp only [Act.put, lsT, lsZ, lsS])
 have hsme := qq (show Calls Tryz.prog 20 #[.agg #[.int .u64 n2, .slice qa2 qs2.length qc2, .slice ba2 brs2.length bc2, .slice ha2 hs2.length hc2], .agg #[.int .u64 n3, .slice qa3 qs3.length qc3, .slice ba3 brs3.length bc3, .slice ha3 hs3.length hc3]] w10 (fun e w' => e = .returned (.bool true) ∧ Below w10.heap.size w10 w') from acf (al1 (StT.mk n2 (.slice qa2 qs2.length qc2) (.slice ba2 brs2.length bc2) (.slice ha2 hs2.length hc2) qs2 brs2 hs2) (StT.mk n3 (.slice qa3 qs3.length qc3) (.slice ba3 brs3.length bc3) (.slice ha3 hs3.length hc3) qs3 brs3 hs3) _ _ w10 (Q10.pure hb) hR3 hSm2.out (hSmB.out.sm (ht3.out.trans (by rw [hSh.out])) (by omega) (by omega) (by omega) (by omega))) (b := true) ⟨fun _ => by rw [ht2.out, ht3.out, hSh.out], fun _ => rfl⟩)
 refine aai 8 rfl (fun Kq hKq => ?_)
 go_simp
 (go_at_call 20; (with_reducible refine hsme.out.mono ?_); rintro e w11 ⟨rfl, hB4⟩)
 have hb := hb.trans (hB4.mono hb.size)
 refine hKq.out _ _ hb (fun zg => ?_)
 clear hKq Kq
 (try simp only [Act.put, lsT, lsZ, lsS])
 refine tkH 9 zg ?_
 refine tkH 10 zg ?_
 refine ah9 ?_
 have D11 := D10.trans (hb.mono D10.size)
 have A11 := A10.pure hb; have E11 := E10.pure hb; have S11 := S10.pure hb; have R11 := R10.pure hb
 clear hb zg A10 E10 S10 R10 D10 Q10 T10 hmk hSmB hSm2 hsme hR3 hB3 hB4 ht3 ht2
 have hcp := qq (show Calls Tryz.prog 11 #[.agg #[.int .u8 4, .string en, .int .u64 ei, .int .u32 xf, .string xg, .string xb, .slice pa zu.length pc, .slice ta zy.length tc]] w11 _ from avl (EnT.mk 4 en ei (xf, xg, xb) (.slice pa zu.length pc) (.slice ta zy.length tc) zu zy) P2 w11 (hEh.out.pure D11) hSe.out.e)
 obtain ⟨e0, e1, e2, e3, e4, e5, e6, e7⟩ := E11.a8
 go_upto_region 15 with (go_at_call 11; (with_reducible refine hcp.out.mono ?_); rintro e w12 ⟨t4, rfl, hz4, hR4, hB5, hO4, hk4, hr4⟩; obtain ⟨dk, dn, di, dxf, dxg, dxb, dpa, dpc, dta, dtc, dps, dts, rfl, -, -⟩ := hR4.open; rw [EnT.arg_mk]; have ht4 := qq hz4; clear hz4)
 clear e0 e1 e2 e3 e4 e5 e6 e7 hcp
 have F0 := Blk.new w12 [.int .u8 dk, .string dn, .int .u64 di, .int .u32 dxf, .string dxg, .string dxb, .slice dpa dps.length dpc, .slice dta dts.length dtc] 34
 obtain ⟨f0, f1, f2, f3, f4, f5, f6, f7⟩ := F0.a8
 have g0 := F0.frozen 0; have g3 := F0.frozen 3; have g4 := F0.frozen 4; have g5 := F0.frozen 5
 have zx := ahk
 go_upto_region 17 with fail
 clear f0 f1 f2 f3 f4 f5 f6 f7 g0 g3 g4 g5 zx
 have F3 := Blk.new w12 [.int .u8 3, .string dn, .int .u64 di, .int .u32 0, .string ⟨#[]⟩, .string ⟨#[]⟩, .slice dpa dps.length dpc, .slice dta dts.length dtc] 34
 have hal4 := (qz w12.heap.size w12).alloc (qj _) (.cells #[.int .u8 3, .string dn, .int .u64 di, .int .u32 0, .string ⟨#[]⟩, .string ⟨#[]⟩, .slice dpa dps.length dpc, .slice dta dts.length dtc] 34)
 have hbe := hB5.trans (hal4.mono hB5.size)
 have hpj := qq (fun j (e : Value.ownBlock (.slice dpa dps.length dpc) = some j) => show w11.heap.size ≤ j ∧ j < w12.heap.size from ⟨hO4.ge e, hO4.lt e⟩)
 have hP5 := hO4.pure hal4
 have hK5 := hk4.pure hal4
 have hr5 := fun x hx => ((hr4 x hx).lt).pure hal4
 have hwf4 := qq hR4.wf
 obtain ⟨w13, hw13⟩ := zj (w12.alloc (.cells #[.int .u8 3, .string dn, .int .u64 di, .int .u32 0, .string ⟨#[]⟩, .string ⟨#[]⟩, .slice dpa dps.length dpc, .slice dta dts.length dtc] 34))
 rw [← hw13] at F3 hbe hP5 hK5 hr5 ⊢
 clear hw13 hal4 F0 hO4 hk4 hr4 hR4 hB5
 have hP5h := qq hP5; have hK5h := qq hK5; have hr5h := qq hr5
 clear hP5 hK5 hr5
 have hSn := qq (show S.next = nx by rw [hSh.out]; rfl)
 have hnx := qq (show 1 ≤ nx ∧ nx ≤ 1099511627777 from by have h0 := hPd.out.rt.n0; have h1 := hPd.out.rt.n1; rw [hSn.out] at h0 h1; exact ⟨h0, h1⟩)
 have hnx0 : 0 ≤ nx := by have := hnx.out; omega
 have hdl : dps.length = zu.length := by have := congrArg (fun e => e.zu.length) ht4.out; simpa [EnT.e] using this
 have hdl2 : dps.length ≤ 20 := by rw [hdl]; exact hSe.out.p
 have hdlh := qq hdl
 clear hdl
 go_wp2_with fail
 go_loopw [12] (fun s12 wr => ∃ k : Nat, k ≤ dps.length ∧ s12 = .int .i64 k ∧ Own w11.heap.size 64 12 aat wr (.slice dpa dps.length dpc) (aha dps nx k) ∧ Upd (fun i => Value.ownBlock (.slice dpa dps.length dpc) = some i) w13 wr) (fun s12 _ => dps.length - (intOf s12).toNat)
 case atStart => exact ⟨0, Nat.zero_le _, rfl, by rw [ayn]; exact hP5h.out, Upd.refl _ _⟩
 case round =>
  obtain ⟨k, hk, rfl, P3, hU⟩ := hrel; have hbr := hbe.trans (hU.below hbe.size (fun j e => (hpj.out j e).1)); have A3 := A11.pure hbr; have hfn : ¬ Value.ownBlock (.slice dpa dps.length dpc) = some w12.heap.size := fun e => by have := (hpj.out _ e).2; omega
  have F4 := F3.upd hU hfn; by_cases hkt : k < dps.length
  ·have hkti : (k : Int) < (dps.length : Int) := by omega
   have hki : (0 : Int) ≤ (k : Int) := by omega
   have hkn : k < (aha dps nx k).length := by rw [ade]; exact hkt
   obtain ⟨gp, rfl, hgp⟩ := abr P3 hkn; have c1 : wr.cell? ⟨gp, k * 12 + 1, none⟩ = some (.int .u64 dps[k].id) := Own.cell aae P3 k hkn 1 _ (by rw [ake hkt]; rfl); have f1 : wr.frozen? ⟨gp, k * 12 + 1, none⟩ = false := Own.frozen P3 (k * 12 + 1); have hw0 : IntKind.u64.wrap (k : Int) = (k : Int) := by rw [IntKind.wrap_u64]; omega
   have hw1 : IntKind.u64.wrap (nx + (k : Int)) = nx + (k : Int) := by have := hnx.out; rw [IntKind.wrap_u64]; omega
   have hset := qq (Own.set aae P3 k hkn 1 (.int .u64 (nx + (k : Int))) { dps[k] with id := nx + (k : Int) } (by omega) (by rw [ake hkt]; rfl)); clear P3; obtain ⟨s0, s1, s2, s3⟩ := A3.a4; have pf6 := F4.at 6 rfl; go_wp2; go_roundw
   case rel =>
    have h9 := hset.out; rw [aiq hkt] at h9; exact ⟨k + 1, by omega, by go_num, h9, hU.trans (Upd.set (S := fun i => Value.ownBlock (.slice (some ⟨gp, 0, none⟩) dps.length dpc) = some i) (p := ⟨gp, k * 12 + 1, none⟩) rfl _) (fun _ e _ => e)⟩
   case measure => simp [intOf]; omega
  ·obtain rfl : k = dps.length := by omega
   have D13 := D11.trans (hbr.mono D11.size); have hEd := qq (bdt (B := w11.heap.size) ⟨hnx0, hnx.out.2⟩ hdl2 hwf4.out P3 (hK5h.out.upd hU (fun j e e' => aaz hK5h.out hP5h.out (by decide) e e')) (fun x hx => ((hr5h.out x hx).upd hU (fun j hj e => hj.1.2 e)).weaken (fun j _ hj => hj.1))); have hE4 : E = (EnT.mk dk dn di (dxf, dxg, dxb) (.slice dpa dps.length dpc) (.slice dta dts.length dtc) dps dts).e := hEEh.out.trans ht4.out.symm; have hEe := qq (show (EnT.mk 3 dn di Xn.zero (.slice dpa dps.length dpc) (.slice dta dts.length dtc) (aha dps nx dps.length) dts).e = ad2 E nx by rw [hE4]; show En.mk 3 dn di Xn.zero ((aha dps nx dps.length).map PtT.p) dts = En.mk 3 dn di Xn.zero (afg (dps.map PtT.p) nx) dts; rw [ayo]); obtain ⟨s5, f5, h5⟩ : ∃ s f, (S.ap E).1.ap (avq (xf, xg, xb) (min nx 1099511627776)) = (s, f) := ⟨_, _, rfl⟩
   obtain ⟨s6, f6, h6⟩ : ∃ s f, S.ap (ad2 E nx) = (s, f) := ⟨_, _, rfl⟩
   have hpc := ank (by rw [hEEh.out]; rfl) hPd.out; dsimp only at hpc; rw [hExh.out, hSn.out, h5, h6] at hpc; dsimp only at hpc; have hEp : E.zu.length = zu.length := by rw [hEEh.out]; exact jf _
   rw [hEp] at hpc; have hpch := qq hpc; have hEph := qq hEp; have hmn : 0 ≤ min nx 1099511627776 ∧ min nx 1099511627776 < 18446744073709551616 := by omega
   have S13 := S11.pure hbr; have E13 := E11.pure hbr; have R13 := R11.pure hbr; have hr5c : Calls Tryz.prog 12 #[.agg #[.int .u64 n1, .slice qa1 qs1.length qc1, .slice ba1 brs1.length bc1, .slice ha1 hs1.length hc1], .agg #[.int .u8 5, .string ⟨#[]⟩, .int .u64 (min nx 1099511627776), .int .u32 xf, .string xg, .string xb, .slice none 0 0, .slice none 0 0]] wr _ := afd hCkh.out bb7 wr (StT.mk n1 (.slice qa1 qs1.length qc1) (.slice ba1 brs1.length bc1) (.slice ha1 hs1.length hc1) qs1 brs1 hs1) ⟨5, ⟨#[]⟩, min nx 1099511627776, (xf, xg, xb), .slice none 0 0, .slice none 0 0, [], []⟩ _ R13 (an8 wr 5 (min nx 1099511627776) ⟨#[]⟩ (xf, xg, xb) (by omega) hmn hxwh.out) (hTh.out.pure D13) hSm1.out ht1.out h5; have hq5 := qq hr5c; have h6h := qq h6; clear hr5c hpc h5 h6 hE4 hEp P3 A11 S11 E11 R11 D11 hbe hP5h hK5h hr5h hwf4 hdl2 R13; obtain ⟨s0, s1, s2, s3⟩ := S13.a4; obtain ⟨e0, e1, e2, e3, e4, e5, e6, e7⟩ := E13.a8; obtain ⟨a0, a1, a2, a3⟩ := A3.a4; have pf6 := F4.at 6 rfl; go_upto_region 21 with fail; go_upto_region 22 with (go_at_call 12; (with_reducible refine hq5.out.mono ?_); rintro e w15 ⟨t5, rfl, hz5, hO5, hB5⟩; obtain ⟨n5, qa5, qc5, ba5, bc5, ha5, hc5, qs5, brs5, hs5, rfl⟩ := hO5.open; rw [StT.arg_mk]; have ht5 := qq hz5; clear hz5); clear s0 s1 s2 s3 e0 e1 e2 e3 e4 e5 e6 e7 a0 a1 a2 a3 hq5; have hal5 := (qz w15.heap.size w15).alloc (qj _) (.cells #[.int .u64 n5, .slice qa5 qs5.length qc5, .slice ba5 brs5.length bc5, .slice ha5 hs5.length hc5] 27); have T15 := Blk.new w15 [.int .u64 n5, .slice qa5 qs5.length qc5, .slice ba5 brs5.length bc5, .slice ha5 hs5.length hc5] 27; have hb5 := hB5.trans (hal5.mono hB5.size); have D15 := D13.trans (hb5.mono D13.size); have A15 := A3.pure hb5; have F15 := F4.pure hb5; have E15 := E13.pure hb5; have Q15 := hO5.rd.pure hal5; have G15 := hEd.out.pure hb5; obtain ⟨v5, hv5⟩ := zj (w15.alloc (.cells #[.int .u64 n5, .slice qa5 qs5.length qc5, .slice ba5 brs5.length bc5, .slice ha5 hs5.length hc5] 27)); rw [← hv5] at T15 D15 A15 F15 E15 Q15 G15 ⊢; clear hv5 hal5 hb5 hB5 hO5 A3 F4 E13 S13 D13 hEd hbr hU; have hr6c : Calls Tryz.prog 12 #[.agg #[.int .u64 nx, .slice qa qs.length qc, .slice ba zk.length bc, .slice ha hs.length hc], .agg #[.int .u8 3, .string dn, .int .u64 di, .int .u32 0, .string ⟨#[]⟩, .string ⟨#[]⟩, (.slice dpa dps.length dpc), .slice dta dts.length dtc]] v5 _ := afd hCkh.out bb6 v5 (StT.mk nx (.slice qa qs.length qc) (.slice ba zk.length bc) (.slice ha hs.length hc) qs zk hs) (EnT.mk 3 dn di Xn.zero (.slice dpa dps.length dpc) (.slice dta dts.length dtc) (aha dps nx dps.length) dts) (fun _ => True) ((hRh.out.pure D15).weaken (fun _ _ => trivial)) (G15.weaken (fun _ _ => trivial)) (hTh.out.pure D15) hSt.out.sm (s' := s6) (f := f6) hSh.out.symm (hEe.out ▸ h6h.out); have hq6 := qq hr6c; clear hr6c G15; obtain ⟨a0, a1, a2, a3⟩ := A15.a4; obtain ⟨g0, g1, g2, g3, g4, g5, g6, g7⟩ := F15.a8; go_upto_region 23 with (go_at_call 12; (with_reducible refine hq6.out.mono ?_); rintro e w16 ⟨t6, rfl, hz6, hO6, hB6⟩; obtain ⟨n6, qa6, qc6, ba6, bc6, ha6, hc6, qs6, brs6, hs6, rfl⟩ := hO6.open; rw [StT.arg_mk]; have ht6 := qq hz6; clear hz6); clear a0 a1 a2 a3 g0 g1 g2 g3 g4 g5 g6 g7 hq6; have hal6 := (qz w16.heap.size w16).alloc (qj _) (.cells #[.int .u64 n6, .slice qa6 qs6.length qc6, .slice ba6 brs6.length bc6, .slice ha6 hs6.length hc6] 27); have T16 := Blk.new w16 [.int .u64 n6, .slice qa6 qs6.length qc6, .slice ba6 brs6.length bc6, .slice ha6 hs6.length hc6] 27; have hb6 := hB6.trans (hal6.mono hB6.size); have D16 := D15.trans (hb6.mono D15.size); have A16 := A15.pure hb6; have E16 := E15.pure hb6; have U16 := T15.pure hb6; have Q16 := Q15.pure hb6; have V16 := hO6.rd.pure hal6; obtain ⟨v6, hv6⟩ := zj (w16.alloc (.cells #[.int .u64 n6, .slice qa6 qs6.length qc6, .slice ba6 brs6.length bc6, .slice ha6 hs6.length hc6] 27)); rw [← hv6] at T16 D16 A16 E16 U16 Q16 V16 ⊢; clear hv6 hal6 hb6 hB6 hO6 A15 E15 T15 Q15 D15 F15; rcases hpch.out with ⟨q5, q6⟩ | ⟨hne, hov, hps⟩
   ·obtain ⟨rfl, rfl⟩ := Prod.mk.inj q5
    obtain ⟨rfl, rfl⟩ := Prod.mk.inj q6; have hwl := bak hSl.out (afg E.zu nx) E.zy; rw [ag3, hEph.out] at hwl; have hp20 : zu.length ≤ 20 := hSe.out.p; have hsme := qq (show Calls Tryz.prog 20 #[.agg #[.int .u64 n5, .slice qa5 qs5.length qc5, .slice ba5 brs5.length bc5, .slice ha5 hs5.length hc5], .agg #[.int .u64 n6, .slice qa6 qs6.length qc6, .slice ba6 brs6.length bc6, .slice ha6 hs6.length hc6]] v6 (fun e w' => e = .returned (.bool true) ∧ Below v6.heap.size v6 w') from acf (al1 (StT.mk n5 (.slice qa5 qs5.length qc5) (.slice ba5 brs5.length bc5) (.slice ha5 hs5.length hc5) qs5 brs5 hs5) (StT.mk n6 (.slice qa6 qs6.length qc6) (.slice ba6 brs6.length bc6) (.slice ha6 hs6.length hc6) qs6 brs6 hs6) _ _ v6 Q16 V16 (hwl.sm ht5.out (by omega) (by omega) (by omega) (by omega)) (hwl.sm ht6.out (by omega) (by omega) (by omega) (by omega))) (b := true) ⟨fun _ => ht5.out.trans ht6.out.symm, fun _ => rfl⟩); clear q5 q6 hwl hp20 A16 E16; obtain ⟨s0, s1, s2, s3⟩ := U16.a4; obtain ⟨a0, a1, a2, a3⟩ := T16.a4; go_wp2_with (first | (go_at_call 20; (with_reducible refine hsme.out.mono ?_); rintro e w17 ⟨rfl, hB7⟩) | (go_at_call 9; (with_reducible refine (ahc hCkh.out _ (hTh.out.pure (D16.trans (hB7.mono D16.size)))).mono ?_); rintro e w18 ⟨rfl, hB8⟩)); go_ret; exact ⟨rfl, bcf hBw.out (D16.trans (hB7.mono D16.size)) hB8⟩
   ·obtain ⟨s0, s1, s2, s3⟩ := A16.a4; obtain ⟨e0, e1, e2, e3, e4, e5, e6, e7⟩ := E16.a8
    have hp20 : zu.length ≤ 20 := hSe.out.p; have hn1 := hnx.out; have hw0 : IntKind.u64.wrap (zu.length : Int) = (zu.length : Int) := by rw [IntKind.wrap_u64]; omega
    have hw1 : IntKind.u64.wrap (nx + (zu.length : Int)) = nx + (zu.length : Int) := by rw [IntKind.wrap_u64]; omega
    have hpi : (0 : Int) < (zu.length : Int) := by omega
    clear hn1 hp20 U16 T16; by_cases hf5 : f5 = 0
    ·have hf6 : ¬ f6 = 0 := fun h => hne ⟨hf5, h⟩
     clear hne; subst hf5; exact aoa
    ·clear hne
     exact aoa
theorem akm (w : World) {t : StT} {e : EnT} {P P2 : Nat → Prop} (hR : StRd P w t) (hE : EnRd P2 w e) (hT : Tb w) :
 Calls Tryz.prog 6 #[t.arg, e.arg] w fun e w' => e = .returned (.bool true) ∧ Below w.heap.size w w' :=
 bcg (fun t P w hR hT => arl t P w hR hT) w t e P P2 hR hE hT
open Go.ChangeShapes Go.WideShapes Go.ChangeAt Go.RowKit
section
variable {H : Type} {enc : TypeId × Value → H} {P : Program} {w : World} {base : Nat} {spare : Nat → Bool} {held : Bool}
theorem ags {P : Prop} (h : P := by
 rw [h1] at e
 have : ((cs.drop o).take 1)[0]? = some c := by rw [List.getElem?_take]; simp [hc]
 rw [e] at this
 simpa using this.symm) : P := h
theorem acl {k : IntKind} {m : Nat} {t o : Nat} {cs : List Value} {c : Value} (hi : P.underlying t = some (.int k)) (h1 : P.cellsOf t = 1) (hc : cs[o]? = some c) (h : ∃ z, DataW.trod enc P w base spare held m t ((cs.drop o).take (P.cellsOf t)) = some z) :
 ∃ a, c = .int k a ∧ (Lit.int k a).wf = true := by
 obtain ⟨z, h⟩ := h
 obtain ⟨a, e, _, hw⟩ := DataW.trod_int hi h
 refine ⟨a, ?_, hw⟩
 exact ags
theorem ahw {m : Nat} {t o : Nat} {cs : List Value} {c : Value} (hi : P.underlying t = some .bool) (h1 : P.cellsOf t = 1) (hc : cs[o]? = some c) (h : ∃ z, DataW.trod enc P w base spare held m t ((cs.drop o).take (P.cellsOf t)) = some z) :
 ∃ a, c = .bool a := by
 obtain ⟨z, h⟩ := h
 obtain ⟨a, e, _⟩ := DataW.trod_bool hi h
 refine ⟨a, ?_⟩
 exact ags
theorem abb {m : Nat} {t o : Nat} {cs : List Value} {c : Value} (hi : P.underlying t = some .string) (h1 : P.cellsOf t = 1) (hc : cs[o]? = some c) (h : ∃ z, DataW.trod enc P w base spare held m t ((cs.drop o).take (P.cellsOf t)) = some z) :
 ∃ s : ByteArray, c = .string s ∧ s.size ≤ maxLen := by
 obtain ⟨z, h⟩ := h
 obtain ⟨s, e, _, hl⟩ := DataW.trod_string hi h
 refine ⟨s, ?_, hl⟩
 exact ags
end
section
variable {H : Type} {enc : TypeId × Value → H} {P : Program} {w : World} {base : Nat} {spare : Nat → Bool} {held : Bool}
theorem acm {α : Type} {ρ : α → List Value} {Wf : α → Prop} {m : Nat} {t e : TypeId} {v : Value} (ht : P.underlying t = some (.slice e)) (hc : P.cellsOf e = m) (hm : 0 < m)
 {fuel : Nat} {z : DataW H × List MemPlace} (hel : ∀ n cs y, n < fuel → DataW.trod enc P w base spare held n e cs = some y → ∃ x, cs = ρ x ∧ Wf x)
 (hsl : ∃ a len cap, v = .slice a len cap) (hf : DataW.trod enc P w base spare held fuel t [v] = some z) :
 ∃ L : List α, Slc ρ m w v L ∧ ∀ x ∈ L, Wf x := by
 rcases DataW.trod_slice ht hf with ⟨hcs, hx⟩ | ⟨a, len, cap, elems, rest, n, hfu, hcs, hx, hb, hl, hmx, hlen, hi, -⟩
 ·refine ⟨[], .inl ⟨none, 0, ?_, by simp, rfl⟩, by simp⟩
  obtain ⟨a, l, c, rfl⟩ := hsl; simpa [Value.cells] using hcs
 ·have hv : v = .slice (some a) len cap := by obtain ⟨a, l, c, rfl⟩ := hsl; simpa [Value.cells] using hcs
  subst hv
  have key : ∀ i, i < len → ∃ x, Wf x ∧ w.cells? base (a.add (i * m)) m = some (ρ x) := by
   intro i hil
   obtain ⟨cs', h1, h2⟩ : ∃ cs', w.cells? base (a.add (i * P.cellsOf e)) (P.cellsOf e) = some cs' ∧ DataW.trod enc P w base spare held n e cs' = some elems[i] := by
    have := hi i hil; rw [List.getElem?_eq_getElem (by omega)] at this; exact Option.bind_eq_some_iff.1 this
   obtain ⟨x, rfl, hw⟩ := hel n _ _ (by omega) h2; rw [hc] at h1; exact ⟨x, hw, h1⟩
  by_cases h0 : len = 0
  ·subst h0; exact ⟨[], .inl ⟨some a, cap, rfl, hmx, rfl⟩, by simp⟩
  have hspot : a.spot = none := by
   obtain ⟨x, _, h1⟩ := key 0 (by omega); obtain ⟨_, hlen, hcell⟩ := World.cells?_some h1; have h2 := hcell 0 (by omega); simp only [Nat.zero_mul] at h2; have e1 : (a.add 0).add 0 = a := by simp [Addr.add]
   rw [e1] at h2; have h3 : 0 < (ρ x).length := by omega
   rw [List.getElem?_eq_getElem h3] at h2; exact World.cell?_spot h2
  haveI : Inhabited α := ⟨(key 0 (by omega)).choose⟩
  obtain ⟨f, hf'⟩ := Deep.choose_lt key; refine ⟨(List.range len).map f, .inr ⟨a.block, a.off, cap, ?_, by simpa using hl, hmx, ?_⟩, ?_⟩
  ·have : a = ⟨a.block, a.off, none⟩ := by obtain ⟨b, o, s⟩ := a; simp_all
   simp [← this]
  ·intro i hil j u hu
   simp only [jf, List.length_range] at hil; simp only [zq, List.getElem_range] at hu; obtain ⟨_, h1⟩ := hf' i hil; obtain ⟨_, hlen, hcell⟩ := World.cells?_some h1; have hj : j < m := by rw [← hlen]; exact (List.getElem?_eq_some_iff.1 hu).1
   have h2 := hcell j hj; rw [hu, Deep.add_add, bbh a hspot, ← Nat.add_assoc] at h2; exact h2
  ·intro x hx
   rw [jv] at hx; obtain ⟨i, hi', rfl⟩ := hx; exact (hf' i (List.mem_range.1 hi')).1
end
section
variable {H : Type} {enc : TypeId × Value → H} {w : World} {base : Nat} {spare : Nat → Bool} {held : Bool}
theorem abo {t e : TypeId} {n : Nat} {c : Value} {y : DataW H × List MemPlace} (ht : Tryz.prog.underlying t = some (.slice e)) (h : DataW.trod enc Tryz.prog w base spare held n t [c] = some y) : ∃ a l cap, c = .slice a l cap := by
 rcases DataW.trod_slice ht h with ⟨hcs, _⟩ | ⟨a, len, cap, _, _, _, _, hcs, _⟩
 ·simp only [List.cons.injEq, and_true] at hcs; exact ⟨_, _, _, hcs⟩
 ·simp only [List.cons.injEq, and_true] at hcs; exact ⟨_, _, _, hcs⟩
theorem aau {t : TypeId} {fs : Array Field} {n : Nat} {cs : List Value} {y : DataW H × List MemPlace} (ht : Tryz.prog.underlying t = some (.struct fs)) (h : DataW.trod enc Tryz.prog w base spare held n t cs = some y) :
 cs.length = Tryz.prog.cellsOf t ∧ ∃ m, n = m + 1 ∧ ∀ (i : Nat) (f : Field), fs[i]? = some f → ∃ z, DataW.trod enc Tryz.prog w base spare held m f.type ((cs.drop f.offset).take (Tryz.prog.cellsOf f.type)) = some z := by
 obtain ⟨xs, n', rfl, -, hl, hlen, hf⟩ := DataW.trod_struct ht h
 refine ⟨hl, n', rfl, fun i f hi => ?_⟩
 have hlt : i < xs.length := by rw [hlen]; exact (Array.getElem?_eq_some_iff.1 hi).1
 have h1 := hf i f hi
 rw [List.getElem?_eq_getElem hlt] at h1
 exact ⟨_, h1⟩
theorem ax2 : ∀ (fuel : Nat) (cs : List Value) (y : DataW H × List MemPlace), DataW.trod enc Tryz.prog w base spare held fuel 56 cs = some y → ∃ t : VT, cs = ac6 t ∧ Rd (fun _ => True) w t := by
 intro fuel
 induction fuel using Nat.strongRecOn with
 | ind fuel ih =>
  intro cs y h; obtain ⟨hl, n, rfl, g⟩ := aau Tryz.underlying56 h; have hc : Tryz.prog.cellsOf 56 = 5 := by kernel_rfl
  have c0 : Tryz.prog.cellsOf 52 = 1 := by kernel_rfl
  have c1 : Tryz.prog.cellsOf 22 = 1 := by kernel_rfl
  have c2 : Tryz.prog.cellsOf 9 = 1 := by kernel_rfl
  have c3 : Tryz.prog.cellsOf 53 = 1 := by kernel_rfl
  have c4 : Tryz.prog.cellsOf 54 = 1 := by kernel_rfl
  rw [hc] at hl
  match cs, hl with
  | [a0, a1, a2, a3, a4], _ =>
   obtain ⟨k, rfl, wk⟩ := acl Tryz.underlying52 c0 (o := 0) (c := a0) rfl (g 0 _ rfl); obtain ⟨m, rfl, wm⟩ := acl Tryz.underlying22 c1 (o := 1) (c := a1) rfl (g 1 _ rfl); obtain ⟨s, rfl, ws⟩ := abb Tryz.underlying9 c2 (o := 2) (c := a2) rfl (g 2 _ rfl); obtain ⟨z3, h3⟩ := g 3 _ rfl; obtain ⟨z4, h4⟩ := g 4 _ rfl; have h3' : DataW.trod enc Tryz.prog w base spare held n 53 (([.int .u8 k, .int .u64 m, .string s, a3, a4].drop 3).take (Tryz.prog.cellsOf 53)) = some z3 := h3; have h4' : DataW.trod enc Tryz.prog w base spare held n 54 (([.int .u8 k, .int .u64 m, .string s, a3, a4].drop 4).take (Tryz.prog.cellsOf 54)) = some z4 := h4; rw [c3] at h3'; rw [c4] at h4'; simp only [List.drop_succ_cons, List.drop_zero, List.take_succ_cons, List.take_zero] at h3' h4'
   obtain ⟨ks, hK, -⟩ := acm (ρ := abv) (Wf := fun _ => True) (m := 1) Tryz.underlying53 c2 (by omega) (fun n cs y _ hy => by
    obtain ⟨x, rfl, _, _⟩ := DataW.trod_string Tryz.underlying9 hy
    exact ⟨x, rfl, trivial⟩) (abo Tryz.underlying53 h3') h3'
   obtain ⟨L, hL, hW⟩ := acm (ρ := ac6) (Wf := fun t => Rd (fun _ => True) w t) (m := 5) Tryz.underlying54 hc (by omega) (fun n' cs y hn hy => ih n' (by omega) cs y hy) (abo Tryz.underlying54 h4') h4'; have bk := bounds_u8 wk
   have bm : 0 ≤ m ∧ m < 18446744073709551616 := by
    simp [Lit.wf, IntKind.min, IntKind.max, IntKind.signed, IntKind.bits] at wm; omega
   exact ⟨.mk k m s a3 a4 ks L, rfl, .mk hK (fun _ _ _ => trivial) hL (fun _ _ _ => trivial) hW bm.1 bm.2 bk.1 (by have := bk.2; show k < 256; omega)⟩
end
def bch : List (String × DataW Unit) := [("unicode/utf8.acceptRanges", Rows.laid_unicode_utf8_acceptRanges), ("unicode/utf8.first", Rows.laid_unicode_utf8_first)]
theorem avo : Rows.laid_unicode_utf8_acceptRanges = Lib.acceptData := by kernel_rfl
theorem ar6 {w : World} (hL : laidMet Tryz.prog bch w) : Tb w :=
 utf8Tabs_of_reads { ayd with } ⟨by kernel_rfl, by kernel_rfl, by kernel_rfl, by kernel_rfl, by kernel_rfl, by kernel_rfl, by kernel_rfl⟩ (Pinned.utf8First_eq ▸ Lib.laidMet.reads hL (.tail _ (.head _))) (avo ▸ Lib.laidMet.reads hL (.head _))
section
variable {H : Type} {enc : TypeId × Value → H} {w : World} {base : Nat} {spare : Nat → Bool} {held : Bool}
def bdu (t : PT) : List Value := [.string t.key, .bool t.dur, .bool t.red, .string t.mid, .int .u8 t.app.k, .int .u64 t.app.n, .string t.app.s, t.app.kv, t.app.lv]
theorem aob (fuel : Nat) (cs : List Value) (y : DataW H × List MemPlace) (h : DataW.trod enc Tryz.prog w base spare held fuel 58 cs = some y) : ∃ t : PT, cs = bdu t ∧ Rd (fun _ => True) w t.app := by
 obtain ⟨hl, n, rfl, g⟩ := aau Tryz.underlying58 h
 have hc : Tryz.prog.cellsOf 58 = 9 := by kernel_rfl
 have c0 : Tryz.prog.cellsOf 56 = 5 := by kernel_rfl
 have c1 : Tryz.prog.cellsOf 4 = 1 := by kernel_rfl
 have c2 : Tryz.prog.cellsOf 9 = 1 := by kernel_rfl
 rw [hc] at hl
 match cs, hl with
 | [a0, a1, a2, a3, a4, a5, a6, a7, a8], _ =>
  obtain ⟨key, rfl, _⟩ := abb Tryz.underlying9 c2 (o := 0) (c := a0) rfl (g 0 _ rfl); obtain ⟨dur, rfl⟩ := ahw Tryz.underlying4 c1 (o := 1) (c := a1) rfl (g 1 _ rfl); obtain ⟨red, rfl⟩ := ahw Tryz.underlying4 c1 (o := 2) (c := a2) rfl (g 2 _ rfl); obtain ⟨mid, rfl, _⟩ := abb Tryz.underlying9 c2 (o := 3) (c := a3) rfl (g 3 _ rfl); obtain ⟨z4, h4⟩ := g 4 _ rfl; have h4' : DataW.trod enc Tryz.prog w base spare held n 56 (([.string key, .bool dur, .bool red, .string mid, a4, a5, a6, a7, a8].drop 4).take (Tryz.prog.cellsOf 56)) = some z4 := h4; rw [c0] at h4'; simp only [List.drop_succ_cons, List.drop_zero, List.take_succ_cons, List.take_zero] at h4'; obtain ⟨t, ht, hR⟩ := ax2 n _ _ h4'; refine ⟨.mk key dur red mid t, ?_, hR⟩; show [_, _, _, _, a4, a5, a6, a7, a8] = [_, _, _, _] ++ ac6 t
  rw [← ht]; rfl
end
theorem EnRd.low {P : Nat → Prop} {w : World} {t : EnT} (h : EnRd P w t) : EnRd (fun i => i < w.heap.size) w t :=
 ⟨h.p, fun k e n => (aez aae (by omega) h.p n k e), fun x hx => (h.r x hx).lt.weaken (fun i _ hi => hi.2), h.s, fun k e n => (aez aa9 (by omega) h.s n k e), h.wf⟩
section
variable {H : Type} {enc : TypeId × Value → H} {w : World} {base : Nat} {spare : Nat → Bool} {held : Bool}
theorem adv {m : Int} (h : (Lit.int .u64 m).wf = true) : 0 ≤ m ∧ m < 18446744073709551616 := by
 simp [Lit.wf, IntKind.min, IntKind.max, IntKind.signed, IntKind.bits] at h
 omega
theorem ar7 {m : Int} (h : (Lit.int .u32 m).wf = true) : 0 ≤ m ∧ m < 4294967296 := by
 simp [Lit.wf, IntKind.min, IntKind.max, IntKind.signed, IntKind.bits] at h
 omega
theorem aqy (fuel : Nat) (cs : List Value) (y : DataW H × List MemPlace) (h : DataW.trod enc Tryz.prog w base spare held fuel 64 cs = some y) : ∃ t : PtT, cs = aat t ∧ (0 ≤ t.id ∧ t.id < 18446744073709551616) ∧ Rd (fun _ => True) w t.pr.app := by
 obtain ⟨hl, n, rfl, g⟩ := aau Tryz.underlying64 h
 have hc : Tryz.prog.cellsOf 64 = 12 := by kernel_rfl
 have c0 : Tryz.prog.cellsOf 58 = 9 := by kernel_rfl
 have c1 : Tryz.prog.cellsOf 22 = 1 := by kernel_rfl
 have c2 : Tryz.prog.cellsOf 9 = 1 := by kernel_rfl
 rw [hc] at hl
 match cs, hl with
 | [a0, a1, a2, a3, a4, a5, a6, a7, a8, a9, a10, a11], _ =>
  obtain ⟨q, rfl, _⟩ := abb Tryz.underlying9 c2 (o := 0) (c := a0) rfl (g 0 _ rfl); obtain ⟨id, rfl, wi⟩ := acl Tryz.underlying22 c1 (o := 1) (c := a1) rfl (g 1 _ rfl); obtain ⟨body, rfl, _⟩ := abb Tryz.underlying9 c2 (o := 11) (c := a11) rfl (g 3 _ rfl); obtain ⟨z2, h2⟩ := g 2 _ rfl; have h2' : DataW.trod enc Tryz.prog w base spare held n 58 (([.string q, .int .u64 id, a2, a3, a4, a5, a6, a7, a8, a9, a10, .string body].drop 2).take (Tryz.prog.cellsOf 58)) = some z2 := h2; rw [c0] at h2'; simp only [List.drop_succ_cons, List.drop_zero, List.take_succ_cons, List.take_zero] at h2'; obtain ⟨t, ht, hR⟩ := aob n _ _ h2'; refine ⟨⟨q, id, t, body⟩, ?_, adv wi, hR⟩; unfold bdu at ht; injection ht with e2 ht; injection ht with e3 ht; injection ht with e4 ht; injection ht with e5 ht; injection ht with e6 ht; injection ht with e7 ht; injection ht with e8 ht; injection ht with e9 ht; injection ht with e10 ht; subst e2; subst e3; subst e4; subst e5; subst e6; subst e7; subst e8; subst e9; subst e10; rfl
theorem aqz (fuel : Nat) (cs : List Value) (y : DataW H × List MemPlace) (h : DataW.trod enc Tryz.prog w base spare held fuel 68 cs = some y) : ∃ r : Rf, cs = abc r ∧ (0 ≤ r.id ∧ r.id < 18446744073709551616) := by
 obtain ⟨hl, n, rfl, g⟩ := aau Tryz.underlying68 h
 have hc : Tryz.prog.cellsOf 68 = 2 := by kernel_rfl
 have c1 : Tryz.prog.cellsOf 22 = 1 := by kernel_rfl
 have c2 : Tryz.prog.cellsOf 9 = 1 := by kernel_rfl
 rw [hc] at hl
 match cs, hl with
 | [a0, a1], _ =>
  obtain ⟨q, rfl, _⟩ := abb Tryz.underlying9 c2 (o := 0) (c := a0) rfl (g 0 _ rfl); obtain ⟨id, rfl, wi⟩ := acl Tryz.underlying22 c1 (o := 1) (c := a1) rfl (g 1 _ rfl); exact ⟨⟨q, id⟩, rfl, adv wi⟩
theorem akn (fuel : Nat) (cs : List Value) (y : DataW H × List MemPlace) (h : DataW.trod enc Tryz.prog w base spare held fuel 30 cs = some y) : ∃ (xf : Int) (xg xb : ByteArray), cs = [.int .u32 xf, .string xg, .string xb] ∧ (0 ≤ xf ∧ xf < 4294967296) := by
 obtain ⟨hl, n, rfl, g⟩ := aau Tryz.underlying30 h
 have hc : Tryz.prog.cellsOf 30 = 3 := by kernel_rfl
 have c1 : Tryz.prog.cellsOf 28 = 1 := by kernel_rfl
 have c2 : Tryz.prog.cellsOf 9 = 1 := by kernel_rfl
 rw [hc] at hl
 match cs, hl with
 | [a0, a1, a2], _ =>
  obtain ⟨xf, rfl, wi⟩ := acl Tryz.underlying28 c1 (o := 0) (c := a0) rfl (g 0 _ rfl); obtain ⟨xg, rfl, _⟩ := abb Tryz.underlying9 c2 (o := 1) (c := a1) rfl (g 1 _ rfl); obtain ⟨xb, rfl, _⟩ := abb Tryz.underlying9 c2 (o := 2) (c := a2) rfl (g 2 _ rfl); exact ⟨xf, xg, xb, rfl, ar7 wi⟩
theorem bam (fuel : Nat) (cs : List Value) (y : DataW H × List MemPlace) (h : DataW.trod enc Tryz.prog w base spare held fuel 34 cs = some y) : ∃ t : EnT, t.arg = .agg cs.toArray ∧ EnRd (fun _ => True) w t := by
 obtain ⟨hl, n, rfl, g⟩ := aau Tryz.underlying34 h
 have hc : Tryz.prog.cellsOf 34 = 8 := by kernel_rfl
 have c0 : Tryz.prog.cellsOf 5 = 1 := by kernel_rfl
 have c1 : Tryz.prog.cellsOf 22 = 1 := by kernel_rfl
 have c2 : Tryz.prog.cellsOf 9 = 1 := by kernel_rfl
 have c3 : Tryz.prog.cellsOf 30 = 3 := by kernel_rfl
 have c4 : Tryz.prog.cellsOf 31 = 1 := by kernel_rfl
 have c5 : Tryz.prog.cellsOf 32 = 1 := by kernel_rfl
 have cp : Tryz.prog.cellsOf 64 = 12 := by kernel_rfl
 have cr : Tryz.prog.cellsOf 68 = 2 := by kernel_rfl
 rw [hc] at hl
 match cs, hl with
 | [a0, a1, a2, a3, a4, a5, a6, a7], _ =>
  obtain ⟨k, rfl, wk⟩ := acl Tryz.underlying5 c0 (o := 0) (c := a0) rfl (g 0 _ rfl); obtain ⟨nm, rfl, _⟩ := abb Tryz.underlying9 c2 (o := 1) (c := a1) rfl (g 1 _ rfl); obtain ⟨m, rfl, wm⟩ := acl Tryz.underlying22 c1 (o := 2) (c := a2) rfl (g 2 _ rfl); obtain ⟨z3, h3⟩ := g 3 _ rfl; have h3' : DataW.trod enc Tryz.prog w base spare held n 30 (([.int .u8 k, .string nm, .int .u64 m, a3, a4, a5, a6, a7].drop 3).take (Tryz.prog.cellsOf 30)) = some z3 := h3; rw [c3] at h3'; simp only [List.drop_succ_cons, List.drop_zero, List.take_succ_cons, List.take_zero] at h3'; obtain ⟨z4, h4⟩ := g 4 _ rfl; have h4' : DataW.trod enc Tryz.prog w base spare held n 31 (([.int .u8 k, .string nm, .int .u64 m, a3, a4, a5, a6, a7].drop 6).take (Tryz.prog.cellsOf 31)) = some z4 := h4; rw [c4] at h4'; simp only [List.drop_succ_cons, List.drop_zero, List.take_succ_cons, List.take_zero] at h4'; obtain ⟨z5, h5⟩ := g 5 _ rfl; have h5' : DataW.trod enc Tryz.prog w base spare held n 32 (([.int .u8 k, .string nm, .int .u64 m, a3, a4, a5, a6, a7].drop 7).take (Tryz.prog.cellsOf 32)) = some z5 := h5; rw [c5] at h5'; simp only [List.drop_succ_cons, List.drop_zero, List.take_succ_cons, List.take_zero] at h5'; obtain ⟨xf, xg, xb, hx, wx⟩ := akn n _ _ h3'; injection hx with e3 hx; injection hx with e4 hx; injection hx with e5 hx; subst e3; subst e4; subst e5; obtain ⟨P, hP, wP⟩ := acm (ρ := aat) (Wf := fun t => (0 ≤ t.id ∧ t.id < 18446744073709551616) ∧ Rd (fun _ => True) w t.pr.app) (m := 12) Tryz.underlying31 cp (by omega) (fun n cs y _ hy => aqy n cs y hy) (abo Tryz.underlying31 h4') h4'; obtain ⟨T, hT, wT⟩ := acm (ρ := abc) (Wf := fun r => 0 ≤ r.id ∧ r.id < 18446744073709551616) (m := 2) Tryz.underlying32 cr (by omega) (fun n cs y _ hy => aqz n cs y hy) (abo Tryz.underlying32 h5') h5'; have bk := bounds_u8 wk; have bm := adv wm; refine ⟨.mk k nm m (xf, xg, xb) a6 a7 P T, rfl, hP, fun _ _ _ => trivial, fun x hx => (wP x hx).2, hT, fun _ _ _ => trivial, ⟨bk.1, by have := bk.2; show k < 256; omega, bm.1, bm.2, wx.1, wx.2, fun p hp => by obtain ⟨x, hx, rfl⟩ := jv.1 hp; exact ⟨(wP x hx).1.1, (wP x hx).1.2, (wP x hx).2.wf⟩, fun r hr => wT r hr⟩⟩
theorem ar8 {b : Nat} {v : Value} {d : DataW H} {ps : List MemPlace} (hv : Value.okWide Tryz.prog w .any b 34 v) (h : DataW.Trod enc Tryz.prog w base spare held 34 v d ps) : ∃ t : EnT, v = t.arg ∧ EnRd (fun i => i < w.heap.size) w t := by
 obtain ⟨cs, rfl, hs⟩ := okWide_struct Tryz.underlying34 hv
 obtain ⟨n, hn⟩ := h
 obtain ⟨t, e, hR⟩ := bam n cs.toList _ (by simpa [Value.cells] using hn)
 exact ⟨t, by rw [e], hR.low⟩
end
section
variable {H : Type} {enc : TypeId × Value → H} {w : World} {base : Nat} {spare : Nat → Bool} {held : Bool}
theorem ax3 (fuel : Nat) (cs : List Value) (y : DataW H × List MemPlace) (h : DataW.trod enc Tryz.prog w base spare held fuel 60 cs = some y) : ∃ t : MsT, cs = abl t ∧ (0 ≤ t.id ∧ t.id < 18446744073709551616) ∧ Rd (fun _ => True) w t.pr.app := by
 obtain ⟨hl, n, rfl, g⟩ := aau Tryz.underlying60 h
 have hc : Tryz.prog.cellsOf 60 = 11 := by kernel_rfl
 have c0 : Tryz.prog.cellsOf 58 = 9 := by kernel_rfl
 have c1 : Tryz.prog.cellsOf 22 = 1 := by kernel_rfl
 have c2 : Tryz.prog.cellsOf 9 = 1 := by kernel_rfl
 rw [hc] at hl
 match cs, hl with
 | [a1, a2, a3, a4, a5, a6, a7, a8, a9, a10, a11], _ =>
  obtain ⟨id, rfl, wi⟩ := acl Tryz.underlying22 c1 (o := 0) (c := a1) rfl (g 0 _ rfl); obtain ⟨body, rfl, _⟩ := abb Tryz.underlying9 c2 (o := 10) (c := a11) rfl (g 2 _ rfl); obtain ⟨z1, h1⟩ := g 1 _ rfl; have h1' : DataW.trod enc Tryz.prog w base spare held n 58 (([.int .u64 id, a2, a3, a4, a5, a6, a7, a8, a9, a10, .string body].drop 1).take (Tryz.prog.cellsOf 58)) = some z1 := h1; rw [c0] at h1'; simp only [List.drop_succ_cons, List.drop_zero, List.take_succ_cons, List.take_zero] at h1'; obtain ⟨t, ht, hR⟩ := aob n _ _ h1'; obtain ⟨key, dur, red, mid, pv⟩ := t; have hR : Rd (fun _ => True) w pv := hR; have hRh := hR; obtain ⟨uk, un, us, uka, ukc, ula, ulc, uks, ul, rfl, -, -, -, -⟩ := hR.open; unfold bdu at ht; injection ht with e2 ht; injection ht with e3 ht; injection ht with e4 ht; injection ht with e5 ht; injection ht with e6 ht; injection ht with e7 ht; injection ht with e8 ht; injection ht with e9 ht; injection ht with e10 ht; subst e2; subst e3; subst e4; subst e5; subst e6; subst e7; subst e8; subst e9; subst e10; exact ⟨⟨id, PT.mk key dur red mid (VT.mk uk un us (.slice uka uks.length ukc) (.slice ula ul.length ulc) uks ul), body⟩, rfl, adv wi, hRh⟩
theorem ban (fuel : Nat) (cs : List Value) (y : DataW H × List MemPlace) (h : DataW.trod enc Tryz.prog w base spare held fuel 51 cs = some y) : ∃ t : QuT, cs = aar t ∧ (0 ≤ t.limit ∧ t.limit < 18446744073709551616) ∧ MsRd (fun _ => True) w t.mv t.zw := by
 obtain ⟨hl, n, rfl, g⟩ := aau Tryz.underlying51 h
 have hc : Tryz.prog.cellsOf 51 = 3 := by kernel_rfl
 have c1 : Tryz.prog.cellsOf 22 = 1 := by kernel_rfl
 have c2 : Tryz.prog.cellsOf 9 = 1 := by kernel_rfl
 have c3 : Tryz.prog.cellsOf 49 = 1 := by kernel_rfl
 have cm : Tryz.prog.cellsOf 60 = 11 := by kernel_rfl
 rw [hc] at hl
 match cs, hl with
 | [a0, a1, a2], _ =>
  obtain ⟨nm, rfl, _⟩ := abb Tryz.underlying9 c2 (o := 0) (c := a0) rfl (g 0 _ rfl); obtain ⟨lim, rfl, wl⟩ := acl Tryz.underlying22 c1 (o := 1) (c := a1) rfl (g 1 _ rfl); obtain ⟨z2, h2⟩ := g 2 _ rfl; have h2' : DataW.trod enc Tryz.prog w base spare held n 49 (([.string nm, .int .u64 lim, a2].drop 2).take (Tryz.prog.cellsOf 49)) = some z2 := h2; rw [c3] at h2'; simp only [List.drop_succ_cons, List.drop_zero, List.take_succ_cons, List.take_zero] at h2'; obtain ⟨s2a, s2l, s2c, rfl⟩ := abo Tryz.underlying49 h2'; obtain ⟨M, hM, wM⟩ := acm (ρ := abl) (Wf := fun t => (0 ≤ t.id ∧ t.id < 18446744073709551616) ∧ Rd (fun _ => True) w t.pr.app) (m := 11) Tryz.underlying49 cm (by omega) (fun n cs y _ hy => ax3 n cs y hy) ⟨_, _, _, rfl⟩ h2'; exact ⟨⟨nm, lim, .slice s2a s2l s2c, M⟩, rfl, adv wl, hM, fun _ _ _ => trivial, fun x hx => (wM x hx).2, fun x hx => (wM x hx).1⟩
theorem bao (fuel : Nat) (cs : List Value) (y : DataW H × List MemPlace) (h : DataW.trod enc Tryz.prog w base spare held fuel 62 cs = some y) : ∃ t : BrT, cs = aa7 t ∧ EnRd (fun _ => True) w t.en := by
 obtain ⟨hl, n, rfl, g⟩ := aau Tryz.underlying62 h
 have hc : Tryz.prog.cellsOf 62 = 5 := by kernel_rfl
 have c3 : Tryz.prog.cellsOf 30 = 3 := by kernel_rfl
 have c4 : Tryz.prog.cellsOf 31 = 1 := by kernel_rfl
 have c5 : Tryz.prog.cellsOf 32 = 1 := by kernel_rfl
 have cp : Tryz.prog.cellsOf 64 = 12 := by kernel_rfl
 have cr : Tryz.prog.cellsOf 68 = 2 := by kernel_rfl
 rw [hc] at hl
 match cs, hl with
 | [a3, a4, a5, a6, a7], _ =>
  obtain ⟨z0, h0⟩ := g 0 _ rfl; have h0' : DataW.trod enc Tryz.prog w base spare held n 30 (([a3, a4, a5, a6, a7].drop 0).take (Tryz.prog.cellsOf 30)) = some z0 := h0; rw [c3] at h0'; simp only [List.drop_succ_cons, List.drop_zero, List.take_succ_cons, List.take_zero] at h0'; obtain ⟨z1, h1⟩ := g 1 _ rfl; have h1' : DataW.trod enc Tryz.prog w base spare held n 31 (([a3, a4, a5, a6, a7].drop 3).take (Tryz.prog.cellsOf 31)) = some z1 := h1; rw [c4] at h1'; simp only [List.drop_succ_cons, List.drop_zero, List.take_succ_cons, List.take_zero] at h1'; obtain ⟨z2, h2⟩ := g 2 _ rfl; have h2' : DataW.trod enc Tryz.prog w base spare held n 32 (([a3, a4, a5, a6, a7].drop 4).take (Tryz.prog.cellsOf 32)) = some z2 := h2; rw [c5] at h2'; simp only [List.drop_succ_cons, List.drop_zero, List.take_succ_cons, List.take_zero] at h2'; obtain ⟨xf, xg, xb, hx, wx⟩ := akn n _ _ h0'; injection hx with e3 hx; injection hx with e4 hx; injection hx with e5 hx; subst e3; subst e4; subst e5; obtain ⟨s1a, s1l, s1c, rfl⟩ := abo Tryz.underlying31 h1'; obtain ⟨P, hP, wP⟩ := acm (ρ := aat) (Wf := fun t => (0 ≤ t.id ∧ t.id < 18446744073709551616) ∧ Rd (fun _ => True) w t.pr.app) (m := 12) Tryz.underlying31 cp (by omega) (fun n cs y _ hy => aqy n cs y hy) ⟨_, _, _, rfl⟩ h1'; obtain ⟨s2a, s2l, s2c, rfl⟩ := abo Tryz.underlying32 h2'; obtain ⟨T, hT, wT⟩ := acm (ρ := abc) (Wf := fun r => 0 ≤ r.id ∧ r.id < 18446744073709551616) (m := 2) Tryz.underlying32 cr (by omega) (fun n cs y _ hy => aqz n cs y hy) ⟨_, _, _, rfl⟩ h2'; exact ⟨⟨(xf, xg, xb), .slice s1a s1l s1c, .slice s2a s2l s2c, P, T⟩, rfl, hP, fun _ _ _ => trivial, fun x hx => (wP x hx).2, hT, fun _ _ _ => trivial, ⟨by show (0 : Int) ≤ 4; omega, by show (4 : Int) < 256; omega, by show (0 : Int) ≤ 0; omega, by show (0 : Int) < _; omega, wx.1, wx.2, fun p hp => by obtain ⟨x, hx, rfl⟩ := jv.1 hp; exact ⟨(wP x hx).1.1, (wP x hx).1.2, (wP x hx).2.wf⟩, wT⟩⟩
theorem bap (fuel : Nat) (cs : List Value) (y : DataW H × List MemPlace) (h : DataW.trod enc Tryz.prog w base spare held fuel 90 cs = some y) : ∃ t : He, cs = adp t ∧ (0 ≤ t.x.1 ∧ t.x.1 < 4294967296) := by
 obtain ⟨hl, n, rfl, g⟩ := aau Tryz.underlying90 h
 have hc : Tryz.prog.cellsOf 90 = 4 := by kernel_rfl
 have c3 : Tryz.prog.cellsOf 30 = 3 := by kernel_rfl
 have c4 : Tryz.prog.cellsOf 4 = 1 := by kernel_rfl
 rw [hc] at hl
 match cs, hl with
 | [a3, a4, a5, a6], _ =>
  obtain ⟨b, rfl⟩ := ahw Tryz.underlying4 c4 (o := 3) (c := a6) rfl (g 1 _ rfl); obtain ⟨z0, h0⟩ := g 0 _ rfl; have h0' : DataW.trod enc Tryz.prog w base spare held n 30 (([a3, a4, a5, .bool b].drop 0).take (Tryz.prog.cellsOf 30)) = some z0 := h0; rw [c3] at h0'; simp only [List.drop_succ_cons, List.drop_zero, List.take_succ_cons, List.take_zero] at h0'; obtain ⟨xf, xg, xb, hx, wx⟩ := akn n _ _ h0'; injection hx with e3 hx; injection hx with e4 hx; injection hx with e5 hx; subst e3; subst e4; subst e5; exact ⟨⟨(xf, xg, xb), b⟩, rfl, wx⟩
theorem ax4 (fuel : Nat) (cs : List Value) (y : DataW H × List MemPlace) (h : DataW.trod enc Tryz.prog w base spare held fuel 27 cs = some y) : ∃ t : StT, t.arg = .agg cs.toArray ∧ StRd (fun _ => True) w t := by
 obtain ⟨hl, n, rfl, g⟩ := aau Tryz.underlying27 h
 have hc : Tryz.prog.cellsOf 27 = 4 := by kernel_rfl
 have c1 : Tryz.prog.cellsOf 22 = 1 := by kernel_rfl
 have c2 : Tryz.prog.cellsOf 23 = 1 := by kernel_rfl
 have c3 : Tryz.prog.cellsOf 24 = 1 := by kernel_rfl
 have c4 : Tryz.prog.cellsOf 25 = 1 := by kernel_rfl
 have cq : Tryz.prog.cellsOf 51 = 3 := by kernel_rfl
 have cb : Tryz.prog.cellsOf 62 = 5 := by kernel_rfl
 have ch : Tryz.prog.cellsOf 90 = 4 := by kernel_rfl
 rw [hc] at hl
 match cs, hl with
 | [a0, a1, a2, a3], _ =>
  obtain ⟨nx, rfl, wn⟩ := acl Tryz.underlying22 c1 (o := 0) (c := a0) rfl (g 0 _ rfl); obtain ⟨z1, h1⟩ := g 1 _ rfl; have h1' : DataW.trod enc Tryz.prog w base spare held n 23 (([.int .u64 nx, a1, a2, a3].drop 1).take (Tryz.prog.cellsOf 23)) = some z1 := h1; rw [c2] at h1'; simp only [List.drop_succ_cons, List.drop_zero, List.take_succ_cons, List.take_zero] at h1'; obtain ⟨z2, h2⟩ := g 2 _ rfl; have h2' : DataW.trod enc Tryz.prog w base spare held n 24 (([.int .u64 nx, a1, a2, a3].drop 2).take (Tryz.prog.cellsOf 24)) = some z2 := h2; rw [c3] at h2'; simp only [List.drop_succ_cons, List.drop_zero, List.take_succ_cons, List.take_zero] at h2'; obtain ⟨z3, h3⟩ := g 3 _ rfl; have h3' : DataW.trod enc Tryz.prog w base spare held n 25 (([.int .u64 nx, a1, a2, a3].drop 3).take (Tryz.prog.cellsOf 25)) = some z3 := h3; rw [c4] at h3'; simp only [List.drop_succ_cons, List.drop_zero, List.take_succ_cons, List.take_zero] at h3'; obtain ⟨s1a, s1l, s1c, rfl⟩ := abo Tryz.underlying23 h1'; obtain ⟨Q, hQ, wQ⟩ := acm (ρ := aar) (Wf := fun t => (0 ≤ t.limit ∧ t.limit < 18446744073709551616) ∧ MsRd (fun _ => True) w t.mv t.zw) (m := 3) Tryz.underlying23 cq (by omega) (fun n cs y _ hy => ban n cs y hy) ⟨_, _, _, rfl⟩ h1'; obtain ⟨s2a, s2l, s2c, rfl⟩ := abo Tryz.underlying24 h2'; obtain ⟨B, hB, wB⟩ := acm (ρ := aa7) (Wf := fun t => EnRd (fun _ => True) w t.en) (m := 5) Tryz.underlying24 cb (by omega) (fun n cs y _ hy => bao n cs y hy) ⟨_, _, _, rfl⟩ h2'; obtain ⟨s3a, s3l, s3c, rfl⟩ := abo Tryz.underlying25 h3'; obtain ⟨K, hK, wK⟩ := acm (ρ := adp) (Wf := fun t => 0 ≤ t.x.1 ∧ t.x.1 < 4294967296) (m := 4) Tryz.underlying25 ch (by omega) (fun n cs y _ hy => bap n cs y hy) ⟨_, _, _, rfl⟩ h3'; exact ⟨⟨nx, .slice s1a s1l s1c, .slice s2a s2l s2c, .slice s3a s3l s3c, Q, B, K⟩, rfl, hQ, fun _ _ _ => trivial, fun q hq => (wQ q hq).2, hB, fun _ _ _ => trivial, wB, hK, fun _ _ _ => trivial, adv wn, fun q hq => (wQ q hq).1, wK⟩
theorem ar9 {b : Nat} {v : Value} {d : DataW H} {ps : List MemPlace} (hv : Value.okWide Tryz.prog w .any b 27 v) (h : DataW.Trod enc Tryz.prog w base spare held 27 v d ps) : ∃ t : StT, v = t.arg ∧ StRd (fun _ => True) w t := by
 obtain ⟨cs, rfl, hs⟩ := okWide_struct Tryz.underlying27 hv
 obtain ⟨n, hn⟩ := h
 obtain ⟨t, e, hR⟩ := ax4 n cs.toList _ (by simpa [Value.cells] using hn)
 exact ⟨t, by rw [e], hR⟩
end
end Go.Proofs.YtgnaifhmcllnlaaGreatDoor
