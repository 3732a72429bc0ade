/- Entries: the document's Copy. Condition: the entry is small. Written by gen_enV.py. (Texts joined.) -/
import Derived.Test.YtflglpbjapgciaaGreatDoorER
import Derived.Test.YtflglpbjapgciaaGreatDoorEG

namespace Go.Proofs.YtflglpbjapgciaaGreatDoor
set_option linter.unusedSimpArgs false
set_option linter.unusedVariables false
open Go.RowKit
/-- What stands while puts are copied. -/
structure CSt (w0 w : World) (lv : Value) (L : List PtT) : Prop where
  o : Own w0.heap.size 64 12 ptEnc w lv L
  rd : ∀ x ∈ L, Rd (fun i => w0.heap.size ≤ i ∧ lv.ownBlock ≠ some i) w x.pr.app
  b : Below w0.heap.size w0 w
theorem CSt.upd {w0 w w' : World} {lv : Value} {L : List PtT} {S : Nat → Prop} (h : CSt w0 w lv L) (hu : Upd S w w') (hS : ∀ k, S k → w.heap.size ≤ k) : CSt w0 w' lv L :=
  ⟨h.o.upd hu (fun i hi e => by have h1 := h.o.lt hi; have h2 := hS _ e; omega), fun x hx => ((h.rd x hx).lt.upd hu (fun i hi e => by have h1 := hi.2; have h2 := hS _ e; omega)).weaken (fun i _ hi => hi.1), below_upd h.b hu (fun k e => Nat.le_trans h.b.size (hS k e)) h.b.size⟩
theorem CSt.pure {w0 w w' : World} {lv : Value} {L : List PtT} (h : CSt w0 w lv L) (hB : Below w.heap.size w w') : CSt w0 w' lv L := h.upd (Upd.of_below (S := fun _ => False) hB) (fun _ e => e.elim)
theorem CSt.app {w0 w w' : World} {lv : Value} {L : List PtT} {g cap : Nat} {t : PtT} (h : CSt w0 w lv L) (hO : Own w0.heap.size 64 12 ptEnc w' (.slice (some ⟨g, 0, none⟩) (L.length + 1) cap) (L ++ [t])) (hg : w.grownBy w' lv.ownBlock) (hf : lv.ownBlock = some g ∨ g = w.heap.size)
    (ht : Rd (fun i => w0.heap.size ≤ i ∧ lv.ownBlock ≠ some i) w t.pr.app) : CSt w0 w' (.slice (some ⟨g, 0, none⟩) (L.length + 1) cap) (L ++ [t]) := by
  have hu : Upd (fun i => lv.ownBlock = some i) w w' := Upd.grown hg (fun i e => e)
  have hrd : ∀ x : VT, Rd (fun i => w0.heap.size ≤ i ∧ lv.ownBlock ≠ some i) w x → Rd (fun i => w0.heap.size ≤ i ∧ (Value.slice (some ⟨g, 0, none⟩) (L.length + 1) cap).ownBlock ≠ some i) w' x := fun x hx =>
    (hx.weaken (Q := fun i => (w0.heap.size ≤ i ∧ (Value.slice (some ⟨g, 0, none⟩) (L.length + 1) cap).ownBlock ≠ some i) ∧ lv.ownBlock ≠ some i) (fun i hi hm => ⟨⟨hm.1, fun e => by
      have e : some g = some i := e
      rcases hf with hf | hf
      · exact hm.2 (hf.trans e)
      · injection e with e; omega⟩, hm.2⟩)).upd hu (fun i hi e => hi.2 e) |>.weaken (fun i _ hm => hm.1)
  refine ⟨hO, fun x hx => ?_, below_upd h.b hu (fun k e => h.o.ge e) h.b.size⟩
  rcases List.mem_append.1 hx with hx | hx
  · exact hrd _ (h.rd x hx)
  · rw [List.mem_singleton.1 hx]; exact hrd _ ht
theorem map_take {α β : Type} {f : α → β} {l : List α} {k : Nat} (h : k < l.length) {L : List α} (hL : L.map f = (l.take k).map f) {y : α} (hy : f y = f l[k]) : (L ++ [y]).map f = (l.take (k + 1)).map f := by
  rw [List.take_succ_eq_append_getElem h, List.map_append, List.map_append, hL, List.map_cons, List.map_cons, hy, List.map_nil]
set_option maxRecDepth 100000 in
set_option maxHeartbeats 6400000 in
theorem dcopyputs_any (w : World) (la : Option Addr) (lc : Nat) (l : List PtT) (P : Nat → Prop) (hL : Slc ptEnc 12 w (.slice la l.length lc) l) (hml : (l.length : Int) ≤ 110) (hsub : ∀ x ∈ l, Rd P w x.pr.app) (hsm : ∀ x ∈ l, SmPt x) :
    Calls Tryz.prog 16 #[.slice la l.length lc] w fun e w' => ∃ (v : Value) (L : List PtT), e = .returned v ∧ L.map PtT.p = l.map PtT.p ∧ L.length = l.length ∧ CSt w w' v L := by
  have hsubh := Lib.hid hsub; have hsmh := Lib.hid hsm
  clear hsub hsm
  go_enter Tryz.func16, Tryz.ntmps16
  go_wp2
  go_loopw [3, 4] (fun s3 s4 wr => ∃ (k : Nat) (L : List PtT), k ≤ l.length ∧ s4 = .int .i64 (k : Int) ∧ CSt w wr s3 L ∧ Hid (L.map PtT.p = (l.take k).map PtT.p) ∧ Hid (L.length = k)) (fun _ s4 _ => l.length - (intOf s4).toNat)
  case atStart => exact ⟨0, [], by omega, rfl, ⟨Own.nil, fun x hx => absurd hx (by simp), Below.refl _ _⟩, Lib.hid (by simp), Lib.hid rfl⟩
  case round =>
    obtain ⟨k, L, hk, rfl, hC, hmp, hln⟩ := hrel
    obtain ⟨oa, oc, rfl⟩ := own_lenB hC.o
    by_cases hlt : k < l.length
    · have h1 : (k : Int) < (l.length : Int) := by omega
      have hLr := hL.pure hC.b
      obtain ⟨g0, off, rfl⟩ := hLr.addrB hlt
      have hRk := (hsubh.out l[k] (List.getElem_mem hlt)).pure hC.b
      have hfk := hsmh.out l[k] (List.getElem_mem hlt)
      obtain ⟨q, id, key, dur, red, mid, uk, un, us, uka, ukc, ula, ulc, uks, ul, body, hx, c0, c1, c2, c3, c4, c5, c6, c7, c8, c9, c10, c11⟩ := pt_elem hLr hlt hRk
      have hst := Lib.hid (fun (y : PtT) (hy : y.p = (PtT.mk q id (PT.mk key dur red mid (VT.mk uk un us (.slice uka uks.length ukc) (.slice ula ul.length ulc) uks ul)) body).p) => show (L ++ [y]).map PtT.p = (l.take (k + 1)).map PtT.p from map_take hlt hmp.out (by rw [hx]; exact hy))
      rw [hx] at hRk hfk
      have hRk : Rd P wr (VT.mk uk un us (.slice uka uks.length ukc) (.slice ula ul.length ulc) uks ul) := hRk
      have hfit := Lib.hid (show V.Fit (VT.mk uk un us (.slice uka uks.length ukc) (.slice ula ul.length ulc) uks ul).v from hfk.fit)
      have hD := (Below.refl wr.heap.size wr).alloc (Nat.le_refl _) (.cells #[.string q, .int .u64 id, .string key, .bool dur, .bool red, .string mid, .int .u8 uk, .int .u64 un, .string us, .slice uka uks.length ukc, .slice ula ul.length ulc, .string body] 64)
      have B5 := Blk.new wr [.string q, .int .u64 id, .string key, .bool dur, .bool red, .string mid, .int .u8 uk, .int .u64 un, .string us, .slice uka uks.length ukc, .slice ula ul.length ulc, .string body] 64
      have hR5 := hRk.pure hD
      have hCh := Lib.hid hC
      have hz5 := Lib.hid (show w.heap.size ≤ wr.heap.size from hC.b.size)
      clear hx hfk hRk hLr hC
      have b0 := B5.at 0 rfl; have b1 := B5.at 1 rfl; have b2 := B5.at 2 rfl; have b3 := B5.at 3 rfl; have b4 := B5.at 4 rfl; have b5 := B5.at 5 rfl; have b6 := B5.at 6 rfl; have b7 := B5.at 7 rfl; have b8 := B5.at 8 rfl; have b9 := B5.at 9 rfl; have b10 := B5.at 10 rfl; have b11 := B5.at 11 rfl
      have d9 := d9copy_any (PT.mk key dur red mid (VT.mk uk un us (.slice uka uks.length ukc) (.slice ula ul.length ulc) uks ul)) P _ hR5 hfit.out
      rw [PT.arg_mk] at d9
      have d9h := Lib.hid d9
      clear d9
      go_upto_region 7 with (go_at_call 54; (with_reducible refine (d9h.out).mono ?_); rintro e w6 ⟨⟨keyc, durc, redc, midc, cv⟩, he, hcp, hcR, hB6⟩; have hcR : Rd _ _ cv := hcR; have B6 := B5.pure hB6; have hU6 : Upd (fun k => wr.heap.size ≤ k) wr w6 := Upd.of_below (hD.trans (hB6.mono hD.size)); obtain ⟨ck, cn, cs, cka, ckc, cla, clc, cks, cl, rfl, -⟩ := hcR.open; rw [PT.arg_mk] at he; subst he; have hcph := Lib.hid hcp; clear hcp; clear b0 b1 b2 b3 b4 b5 b6 b7 b8 b9 b10 b11; have b2 := B6.at 2 rfl; have y2 := B6.frozen 2; have b3 := B6.at 3 rfl; have y3 := B6.frozen 3; have b4 := B6.at 4 rfl; have y4 := B6.frozen 4; have b5 := B6.at 5 rfl; have y5 := B6.frozen 5; have b6 := B6.at 6 rfl; have y6 := B6.frozen 6; have b7 := B6.at 7 rfl; have y7 := B6.frozen 7; have b8 := B6.at 8 rfl; have y8 := B6.frozen 8; have b9 := B6.at 9 rfl; have y9 := B6.frozen 9; have b10 := B6.at 10 rfl; have y10 := B6.frozen 10)
      have hu7 := Upd.atPr w6 wr.heap.size (.string keyc) (.bool durc) (.bool redc) (.string midc) (.int .u8 ck) (.int .u64 cn) (.string cs) (.slice cka cks.length ckc) (.slice cla cl.length clc)
      have B7 := B6.atPr (.string keyc) (.bool durc) (.bool redc) (.string midc) (.int .u8 ck) (.int .u64 cn) (.string cs) (.slice cka cks.length ckc) (.slice cla cl.length clc)
      have hwl := Lib.hid (show (wr.alloc (.cells #[.string q, .int .u64 id, .string key, .bool dur, .bool red, .string mid, .int .u8 uk, .int .u64 un, .string us, .slice uka uks.length ukc, .slice ula ul.length ulc, .string body] 64)).heap.size = wr.heap.size + 1 by simp)
      have hb6 := Lib.hid (show wr.heap.size + 1 ≤ w6.heap.size by have := hB6.size; have := hwl.out; omega)
      have R7 := hcR.upd hu7 (fun b hb e => by have := hwl.out; omega)
      have C7 : CSt w (setPr w6 wr.heap.size (.string keyc) (.bool durc) (.bool redc) (.string midc) (.int .u8 ck) (.int .u64 cn) (.string cs) (.slice cka cks.length ckc) (.slice cla cl.length clc)) (.slice oa L.length oc) L := hCh.out.upd (hU6.trans hu7 (fun k e _ => by omega)) (fun k e => e)
      unfold setPr at hu7 B7 R7 C7
      generalize World.setCell (World.setCell (World.setCell (World.setCell (World.setCell (World.setCell (World.setCell (World.setCell (World.setCell w6 _ _) _ _) _ _) _ _) _ _) _ _) _ _) _ _) _ _ = w7 at *
      clear b2 y2 b3 y3 b4 y4 b5 y5 b6 y6 b7 y7 b8 y8 b9 y9 b10 y10 B5 B6
      have b0 := B7.at 0 rfl; have b1 := B7.at 1 rfl; have b2 := B7.at 2 rfl; have b3 := B7.at 3 rfl; have b4 := B7.at 4 rfl; have b5 := B7.at 5 rfl; have b6 := B7.at 6 rfl; have b7 := B7.at 7 rfl; have b8 := B7.at 8 rfl; have b9 := B7.at 9 rfl; have b10 := B7.at 10 rfl; have b11 := B7.at 11 rfl
      have hA8 := (Below.refl w7.heap.size w7).alloc (Nat.le_refl _) (.cells #[.string q, .int .u64 id, .string keyc, .bool durc, .bool redc, .string midc, .int .u8 ck, .int .u64 cn, .string cs, .slice cka cks.length ckc, .slice cla cl.length clc, .string body] 64)
      have C8 := C7.pure hA8
      have bx := Blk.new w7 [.string q, .int .u64 id, .string keyc, .bool durc, .bool redc, .string midc, .int .u8 ck, .int .u64 cn, .string cs, .slice cka cks.length ckc, .slice cla cl.length clc, .string body] 64
      have t8 := (R7.weaken (fun i _ hi => (show w.heap.size ≤ i ∧ (Value.slice oa L.length oc).ownBlock ≠ some i from ⟨by have := hwl.out; have := hz5.out; omega, fun e => by have := hCh.out.o.lt e; have := hwl.out; omega⟩))).pure hA8
      have hln2 := Lib.hid (show L.length < 110 by have := hln.out; omega)
      go_wp2_with (at_builtin; refine wpList_appOne (base := w.heap.size) rfl (.tmp 20) (.tmp 22) 26 64 rfl elem_put ptEnc_len _ L rfl C8.o _ 1 (PtT.mk q id (PT.mk keyc durc redc midc (VT.mk ck cn cs (.slice cka cks.length ckc) (.slice cla cl.length clc) cks cl)) body) (by simp [ptEnc, VT.k, VT.n, VT.s, VT.kv, VT.lv, Value.oneCell']) rfl (fun j u hu => (bx.cell j).trans hu) (by have := hln2.out; omega) (by have := hln2.out; unfold maxLen; omega) C8.b.size ?_; intro g cap w9 hO9 hgr9 hf9; have C9 := C8.app hO9 hgr9 hf9 t8)
      go_roundw
      case rel => exact ⟨k + 1, _, by omega, by go_num, C9, Lib.hid (hst.out _ (by show Pt.mk q id (PT.mk keyc durc redc midc (VT.mk ck cn cs (.slice cka cks.length ckc) (.slice cla cl.length clc) cks cl)).p body = _; rw [hcph.out]; rfl)), Lib.hid (by have := hln.out; simp; omega)⟩
      case measure => simp [intOf]; omega
    · obtain rfl : k = l.length := by omega
      go_wp2
      go_ret
      exact ⟨_, L, rfl, by rw [hmp.out, List.take_length], hln.out, hC⟩
end Go.Proofs.YtflglpbjapgciaaGreatDoor

namespace Go.Proofs.YtflglpbjapgciaaGreatDoor
set_option linter.unusedSimpArgs false
set_option linter.unusedVariables false
open Go.RowKit
def GotE (w : World) (o : Option En) (e : Ending) (w' : World) : Prop := ∃ t : EnT, e = .returned (.tuple #[t.arg, .int .i64 (enE o)]) ∧ t.e = enV o ∧ EnRd (fun i => w.heap.size ≤ i) w' t ∧ Below w.heap.size w w'
def set8 (w : World) (B : Nat) (v0 v1 v2 v3 v4 v5 v6 v7 : Value) : World := (((((((w.setCell ⟨B, 0, none⟩ v0).setCell ⟨B, 1, none⟩ v1).setCell ⟨B, 2, none⟩ v2).setCell ⟨B, 3, none⟩ v3).setCell ⟨B, 4, none⟩ v4).setCell ⟨B, 5, none⟩ v5).setCell ⟨B, 6, none⟩ v6).setCell ⟨B, 7, none⟩ v7
theorem Upd.at8 (w : World) (B : Nat) (v0 v1 v2 v3 v4 v5 v6 v7 : Value) : Upd (fun k => k = B) w (set8 w B v0 v1 v2 v3 v4 v5 v6 v7) := upd_set _ B _ _ (upd_set _ B _ _ (upd_set _ B _ _ (upd_set _ B _ _ (upd_set _ B _ _ (upd_set _ B _ _ (upd_set _ B _ _ (upd_set _ B _ _ (Upd.refl _ w) rfl) rfl) rfl) rfl) rfl) rfl) rfl) rfl
theorem Blk.fresh8 {w : World} {B : Nat} {c0 c1 c2 c3 c4 c5 c6 c7 : Value} (h : Blk w B [c0, c1, c2, c3, c4, c5, c6, c7]) (v0 v1 v2 v3 v4 v5 v6 v7 : Value) : Blk (set8 w B v0 v1 v2 v3 v4 v5 v6 v7) B [v0, v1, v2, v3, v4, v5, v6, v7] := (((((((h.set 0 v0).set 1 v1).set 2 v2).set 3 v3).set 4 v4).set 5 v5).set 6 v6).set 7 v7
theorem egO_ok {L : List UInt8} {q : En} {rE : RS} (h : egP L = (q, rE)) (h0 : rE.2 = false) (h1 : q.chk = 0) (h2 : q.bytes = L) : egO L = some q := by
  rw [egO_P, h]; exact if_pos ⟨h0, h1, h2⟩
theorem egO_no {L : List UInt8} {q : En} {rE : RS} (h : egP L = (q, rE)) (h0 : ¬ (rE.2 = false ∧ q.chk = 0 ∧ q.bytes = L)) : egO L = none := by
  rw [egO_P, h]; exact if_neg h0
theorem zen_rd {P : Nat → Prop} {w : World} : EnRd P w (EnT.mk 0 ⟨#[]⟩ 0 (0, ⟨#[]⟩, ⟨#[]⟩) (.slice none 0 0) (.slice none 0 0) [] []) := ⟨Slc.nil _ _ _, (fun k e => by cases e), (fun x hx => absurd hx (by simp)), Slc.nil _ _ _, (fun k e => by cases e), ⟨(by show (0 : Int) ≤ 0; omega), (by show (0 : Int) < 256; omega), (by show (0 : Int) ≤ 0; omega), (by show (0 : Int) < 18446744073709551616; omega), (by show (0 : Int) ≤ 0; omega), (by show (0 : Int) < 4294967296; omega), (fun p hp => absurd hp (by simp [EnT.e])), (fun p hp => absurd hp (by simp [EnT.e]))⟩⟩
/-- What stands while an entry is read: the reader, the text, the result's box, the entry's. -/
structure GP (w0 w : World) (tb pb rb vb : Nat) (s : ByteArray) (r : RS) (cs : List Value) : Prop where
  E : RdE w tb rb vb r
  S : Blk w w0.heap.size [.string s]
  Z : Blk w (w0.heap.size + 1) [.int .u8 0, .string ⟨#[]⟩, .int .u64 0, .int .u32 0, .string ⟨#[]⟩, .string ⟨#[]⟩, .slice none 0 0, .slice none 0 0]
  P : Blk w pb cs
  T : Below w0.heap.size w0 w
  o1 : w0.heap.size + 1 < vb
  o2 : tb < pb
section
variable {w0 w w' : World} {tb pb rb vb : Nat} {s : ByteArray} {r r' : RS} {cs : List Value}
theorem GP.callE (h : GP w0 w tb pb rb vb s r cs) (hE : RdE w' tb rb vb r') (hu : Upd (Only vb) w w') : GP w0 w' tb pb rb vb s r' cs :=
  ⟨hE, h.S.upd hu (fun e => by have h1 := h.o1; unfold Only at e; omega), h.Z.upd hu (fun e => by have h1 := h.o1; unfold Only at e; omega), h.P.upd hu (fun e => by have h1 := h.o2; have h2 := h.E.v; unfold Only at e; omega), below_only h.T hu (by have h1 := h.o1; omega) h.T.size, h.o1, h.o2⟩
theorem GP.call (h : GP w0 w tb pb rb vb s r cs) (hs : RdS w' vb r'.1 r'.2) (hu : Upd (Only vb) w w') (hl : r'.1.length ≤ r.1.length) : GP w0 w' tb pb rb vb s r' cs := h.callE (h.E.next hu hs hl) hu
theorem GP.pure (h : GP w0 w tb pb rb vb s r cs) (hB : Below w.heap.size w w') : GP w0 w' tb pb rb vb s r cs :=
  ⟨h.E.pure hB, h.S.pure hB, h.Z.pure hB, h.P.pure hB, h.T.trans (hB.mono h.T.size), h.o1, h.o2⟩
theorem GP.set (h : GP w0 w tb pb rb vb s r cs) (j : Nat) (v : Value) : GP w0 (w.setCell ⟨pb, j, none⟩ v) tb pb rb vb s r (cs.set j v) := by
  have hu := Upd.set (S := fun k => k = pb) (w := w) (p := ⟨pb, j, none⟩) rfl v
  have h1 := h.o1; have h2 := h.o2; have h3 := h.E.v
  exact ⟨h.E.other hu (fun k e => by omega), h.S.upd hu (fun e => by omega), h.Z.upd hu (fun e => by omega), h.P.set j v, h.T.trans (hu.below h.T.size (fun i e => by omega)), h1, h2⟩
end
theorem u32_wrap (x : Int) (h0 : 0 ≤ x) (h : x < 4294967296) : IntKind.u32.wrap x = x := by
  have e : IntKind.u32.wrap x = x % 4294967296 := rfl
  rw [e]; omega
set_option maxRecDepth 100000 in
set_option maxHeartbeats 51200000 in
theorem eget_any (w : World) (s : ByteArray) (hs : s.size ≤ 2000000) (hT : Tb w) : Calls Tryz.prog 12 #[.string s] w (GotE w (egO s.data.toList)) := by
  obtain ⟨L, hLe⟩ : ∃ L, s.data.toList = L := ⟨_, rfl⟩
  have hLl : L.length = s.size := by rw [← hLe]; exact ba_len s
  have hLB : Big L.length := by unfold Big; omega
  have hB1 := ((Below.refl w.heap.size w).alloc (Nat.le_refl _) (.cells #[.string s] 9)).alloc (by simp) (.cells #[.int .u8 0, .string ⟨#[]⟩, .int .u64 0, .int .u32 0, .string ⟨#[]⟩, .string ⟨#[]⟩, .slice none 0 0, .slice none 0 0] 29)
  have S1 := (Blk.new w [.string s] 9).alloc (.cells #[.int .u8 0, .string ⟨#[]⟩, .int .u64 0, .int .u32 0, .string ⟨#[]⟩, .string ⟨#[]⟩, .slice none 0 0, .slice none 0 0] 29)
  have Z1 := Blk.newK (w.alloc (.cells #[.string s] 9)) [.int .u8 0, .string ⟨#[]⟩, .int .u64 0, .int .u32 0, .string ⟨#[]⟩, .string ⟨#[]⟩, .slice none 0 0, .slice none 0 0] 29 (w.heap.size + 1) (by simp)
  have hz1 := Lib.hid (show ((w.alloc (.cells #[.string s] 9)).alloc (.cells #[.int .u8 0, .string ⟨#[]⟩, .int .u64 0, .int .u32 0, .string ⟨#[]⟩, .string ⟨#[]⟩, .slice none 0 0, .slice none 0 0] 29)).heap.size = w.heap.size + 2 by simp)
  obtain ⟨cc, W3, hcv, hS3, hC3⟩ := conv_bytes ((w.alloc (.cells #[.string s] 9)).alloc (.cells #[.int .u8 0, .string ⟨#[]⟩, .int .u64 0, .int .u32 0, .string ⟨#[]⟩, .string ⟨#[]⟩, .slice none 0 0, .slice none 0 0] 29)) s (by omega)
  rw [hLe] at hS3 ⊢
  rw [hz1.out] at hS3 hcv
  have S3 := S1.pure hC3; have Z3 := Z1.pure hC3
  have hT3 := hB1.trans (hC3.mono hB1.size)
  have hLeh := Lib.hid hLe; have hsz := Lib.hid hs; have hLlh := Lib.hid hLl
  obtain ⟨⟨k, r1⟩, hk⟩ : ∃ x, nmR 1 (L, false) = x := ⟨_, rfl⟩
  have hk0 := nmR_lt 1 (L, false)
  rw [hk] at hk0
  have hkl : k < 256 := hk0
  have hkw : IntKind.u8.wrap (k : Int) = (k : Int) := en_wrap8 k hkl
  have l1 := Lib.hid (show r1.1.length ≤ L.length by have := nmR_le 1 (L, false); rw [hk] at this; exact this)
  have hkh := Lib.hid hk; have hLBh := Lib.hid hLB
  have zi := entry_info; have zx := xid_info
  have s1 := S3.at 0 rfl; have s1b := S1.at 0 rfl
  clear hk hk0 hkl hLe hLl hs hLB
  go_enter Tryz.func12, Tryz.ntmps12
  go_upto_region 4 with (first | (go_at_call 38; refine (oopen_any _ _ L hS3 hLBh.out).mono ?_; rintro e w4 ⟨rb, vb, rfl, hp4, hs4, hvb4, hrb4, hB4⟩; have S4 := S3.pure hB4; have Z4 := Z3.pure hB4; have hT4 := hT3.trans (hB4.mono hT3.size); have hvb := Lib.hid (show w.heap.size + 1 < vb by have h1 := hC3.size; rw [hz1.out] at h1; omega); have hA5 := ((Below.refl w4.heap.size w4).alloc (Nat.le_refl _) (.cells #[.pointer (some ⟨rb, 0, none⟩)] 82)); have B5 := Blk.new w4 [.pointer (some ⟨rb, 0, none⟩)] 82; have E5 : RdE (w4.alloc (.cells #[.pointer (some ⟨rb, 0, none⟩)] 82)) w4.heap.size rb vb (L, false) := ⟨B5, hp4.pure hA5, hs4.pure hA5, hs4.lt, hp4.1.lt, hLBh.out⟩; have S5 := S4.pure hA5; have Z5 := Z4.pure hA5; have hT5 := hT4.trans (hA5.mono hT4.size); have t5 := E5.b.at 0 rfl) | (go_at_call 39; refine (pnum_rs _ rb vb (L, false) 1 E5.p E5.s (by unfold Wd; omega) E5.l).mono ?_; rintro e w6 ⟨he, hs6, hu6⟩; simp only [hkh.out] at he hs6; subst he; have E6 := E5.next hu6 hs6 l1.out; have S6 := S5.upd hu6 (fun e => by have h1 := hvb.out; unfold Only at e; omega); have Z6 := Z5.upd hu6 (fun e => by have h1 := hvb.out; unfold Only at e; omega); have hT6 := below_only hT5 hu6 (by have h1 := hvb.out; omega) hT5.size; have hpb := E6.b.lt; have hA7 := ((Below.refl w6.heap.size w6).alloc (Nat.le_refl _) (.cells #[.int .u8 k, .string ⟨#[]⟩, .int .u64 0, .int .u32 0, .string ⟨#[]⟩, .string ⟨#[]⟩, .slice none 0 0, .slice none 0 0] 29)); have G7 : GP w (w6.alloc (.cells #[.int .u8 k, .string ⟨#[]⟩, .int .u64 0, .int .u32 0, .string ⟨#[]⟩, .string ⟨#[]⟩, .slice none 0 0, .slice none 0 0] 29)) w4.heap.size w6.heap.size rb vb s r1 [.int .u8 k, .string ⟨#[]⟩, .int .u64 0, .int .u32 0, .string ⟨#[]⟩, .string ⟨#[]⟩, .slice none 0 0, .slice none 0 0] := ⟨E6.pure hA7, S6.pure hA7, Z6.pure hA7, Blk.new w6 [.int .u8 k, .string ⟨#[]⟩, .int .u64 0, .int .u32 0, .string ⟨#[]⟩, .string ⟨#[]⟩, .slice none 0 0, .slice none 0 0] 29, hT6.trans (hA7.mono hT6.size), hvb.out, hpb⟩; have t7 := G7.E.b.at 0 rfl; have p0 := G7.P.at 0 rfl) | (go_at_call 17; (with_reducible refine (uses_any _ _).mono ?_); rintro e _ ⟨rfl, rfl⟩))
  clear t5 t7 p0 hcv s1 s1b S1 S3 S4 S5 S6 Z1 Z3 Z4 Z5 Z6 E5 E6 hB4 hT4 hT5 hT6 hA5 hA7 hs4 hs6 hu6 hp4 B5 hS3 hC3 hB1 hT3 hpb hvb hrb4 hvb4
  generalize World.alloc w6 (.cells #[.int .u8 k, .string ⟨#[]⟩, .int .u64 0, .int .u32 0, .string ⟨#[]⟩, .string ⟨#[]⟩, .slice none 0 0, .slice none 0 0] 29) = w7 at *
  generalize w4.heap.size = tb at *
  generalize w6.heap.size = pb at *
  obtain ⟨b1, b2, b4, b8⟩ := and_us (us (k : Int)) (us_lt _)
  obtain ⟨nb, hnb⟩ : ∃ b, uN (k : Int) = b := ⟨_, rfl⟩
  obtain ⟨mb, hmb⟩ : ∃ b, uM (k : Int) = b := ⟨_, rfl⟩
  obtain ⟨xB, hxb⟩ : ∃ b, uX (k : Int) = b := ⟨_, rfl⟩
  obtain ⟨wb, hwb⟩ : ∃ b, uW (k : Int) = b := ⟨_, rfl⟩
  rw [show (us (k : Int) % 2 == 1) = nb from hnb] at b1
  rw [show (us (k : Int) / 2 % 2 == 1) = mb from hmb] at b2
  rw [show (us (k : Int) / 4 % 2 == 1) = xB from hxb] at b4
  rw [show (us (k : Int) / 8 % 2 == 1) = wb from hwb] at b8
  obtain ⟨u, hue⟩ : ∃ u, us (k : Int) = u := ⟨_, rfl⟩
  rw [hue] at b1 b2 b4 b8
  try rw [hue]
  obtain ⟨⟨name, ra⟩, hn⟩ : ∃ x, (if nb then txR 1 255 r1 else (⟨#[]⟩, r1)) = x := ⟨_, rfl⟩
  obtain ⟨⟨n, rc⟩, hm⟩ : ∃ x, (if mb then nmR 8 ra else (0, ra)) = x := ⟨_, rfl⟩
  obtain ⟨⟨xn, rd⟩, hx⟩ : ∃ x, (if xB then rdX rc else (Xn.zero, rc)) = x := ⟨_, rfl⟩
  obtain ⟨xfi, xg, xb⟩ := xn
  obtain ⟨xf, rfl⟩ : ∃ f : Nat, xfi = (f : Int) := by
    cases xB
    · rw [if_neg (by simp)] at hx; injection hx with h1 h2; injection h1 with h3; exact ⟨0, h3.symm⟩
    · rw [if_pos rfl] at hx; unfold rdX at hx; injection hx with h1 h2; injection h1 with h3; exact ⟨_, h3.symm⟩
  have hpq := fun (f : (List Pt × List Rf) × RS) (h4 : (if wb then rdW L.length rd else (([], []), rd)) = f) => show egP L = (⟨(k : Int), name, (n : Int), ((xf : Int), xg, xb), f.1.1, f.1.2⟩, f.2) by
    unfold egP
    rw [hkh.out]
    dsimp only
    rw [hnb, hn]
    dsimp only
    rw [hmb, hm]
    dsimp only
    rw [hxb, hx]
    dsimp only
    rw [hwb, h4]
  have hpqh := Lib.hid hpq
  have hnh := Lib.hid hn; have hmh := Lib.hid hm; have hxh := Lib.hid hx
  clear hnb hmb hxb hwb hue hn hm hx hpq
  have G := G7
  clear G7
  go_upto_if 23 with fail
  go_cut [6] from 24 to 26 (fun s6 wx => s6 = .int .i64 (u : Int) ∧ GP w wx tb pb rb vb s ra [.int .u8 k, .string name, .int .u64 0, .int .u32 0, .string ⟨#[]⟩, .string ⟨#[]⟩, .slice none 0 0, .slice none 0 0])
  case first =>
    have t0 := G.E.b.at 0 rfl
    have hq := hnh.out
    cases nb
    · obtain ⟨rfl, rfl⟩ : ⟨#[]⟩ = name ∧ r1 = ra := by rw [if_neg (by simp)] at hq; injection hq with h1 h2; exact ⟨h1, h2⟩
      go_wp2_with fail
      go_meet
      exact ⟨rfl, G⟩
    · rw [if_pos rfl] at hq
      have hqh := Lib.hid hq
      have l := Lib.hid (show ra.1.length ≤ r1.1.length by have := txR_le 1 255 r1; rw [hq] at this; exact this)
      clear hq
      go_wp2_with (go_at_call 40; refine (ptext_rs _ rb vb r1 1 255 G.E.p G.E.s (by omega) G.E.l (by unfold Big; omega)).mono ?_; rintro e w2 ⟨he, hs2, hu2⟩; simp only [hqh.out] at he hs2; subst he; have G2 := G.call hs2 hu2 l.out; have p1 := G2.P.at 1 rfl; have y1 := G2.P.frozen 1)
      go_meet
      exact ⟨rfl, G2.set 1 _⟩
  case rest =>
  obtain ⟨rfl, G2⟩ := hcut
  clear G
  have G := G2
  clear G2
  go_upto_if 29 with fail
  go_cut [6] from 30 to 32 (fun s6 wx => s6 = .int .i64 (u : Int) ∧ GP w wx tb pb rb vb s rc [.int .u8 k, .string name, .int .u64 (n : Int), .int .u32 0, .string ⟨#[]⟩, .string ⟨#[]⟩, .slice none 0 0, .slice none 0 0])
  case first =>
    have t0 := G.E.b.at 0 rfl
    have hq := hmh.out
    cases mb
    · obtain ⟨rfl, rfl⟩ : 0 = n ∧ ra = rc := by rw [if_neg (by simp)] at hq; injection hq with h1 h2; exact ⟨h1, h2⟩
      go_wp2_with fail
      go_meet
      exact ⟨rfl, G⟩
    · rw [if_pos rfl] at hq
      have hqh := Lib.hid hq
      have l := Lib.hid (show rc.1.length ≤ ra.1.length by have := nmR_le 8 ra; rw [hq] at this; exact this)
      clear hq
      go_wp2_with (go_at_call 39; refine (pnum_rs _ rb vb ra 8 G.E.p G.E.s (by unfold Wd; omega) G.E.l).mono ?_; rintro e w2 ⟨he, hs2, hu2⟩; simp only [hqh.out] at he hs2; subst he; have G2 := G.call hs2 hu2 l.out; have p2 := G2.P.at 2 rfl; have y2 := G2.P.frozen 2)
      go_meet
      exact ⟨rfl, G2.set 2 _⟩
  case rest =>
  obtain ⟨rfl, G2⟩ := hcut
  clear G
  have G := G2
  clear G2
  go_upto_if 35 with fail
  go_cut [6, 7, 8] from 36 to 46 (fun s6 s7 s8 wx => s6 = .int .i64 (u : Int) ∧ GP w wx tb pb rb vb s rd [.int .u8 k, .string name, .int .u64 (n : Int), .int .u32 (xf : Int), .string xg, .string xb, .slice none 0 0, .slice none 0 0])
  case first =>
    have t0 := G.E.b.at 0 rfl
    have hq := hxh.out
    cases xB
    · obtain ⟨rfl, rfl, rfl, rfl⟩ : 0 = xf ∧ ⟨#[]⟩ = xg ∧ ⟨#[]⟩ = xb ∧ rc = rd := by rw [if_neg (by simp)] at hq; injection hq with h1 h2; injection h1 with h3 h4; injection h4 with h5 h6; exact ⟨by omega, h5, h6, h2⟩
      go_wp2_with fail
      go_meet
      exact ⟨rfl, G⟩
    · rw [if_pos rfl] at hq
      obtain ⟨⟨xf1, rx1⟩, hx1⟩ : ∃ x, nmR 4 rc = x := ⟨_, rfl⟩
      obtain ⟨⟨xg1, rx2⟩, hx2⟩ : ∃ x, txR 1 255 rx1 = x := ⟨_, rfl⟩
      obtain ⟨⟨xb1, rx3⟩, hx3⟩ : ∃ x, txR 1 255 rx2 = x := ⟨_, rfl⟩
      have l1 := Lib.hid (show rx1.1.length ≤ rc.1.length by have := nmR_le 4 rc; rw [hx1] at this; exact this)
      have l2 := Lib.hid (show rx2.1.length ≤ rx1.1.length by have := txR_le 1 255 rx1; rw [hx2] at this; exact this)
      have l3 := Lib.hid (show rx3.1.length ≤ rx2.1.length by have := txR_le 1 255 rx2; rw [hx3] at this; exact this)
      have hxl : xf1 < 4294967296 := by have := nmR_lt 4 rc; rw [hx1] at this; exact this
      have hxw : IntKind.u32.wrap (xf1 : Int) = (xf1 : Int) := u32_wrap _ (by omega) (by omega)
      obtain ⟨rfl, rfl, rfl, rfl⟩ : xf1 = xf ∧ xg1 = xg ∧ xb1 = xb ∧ rx3 = rd := by
        unfold rdX at hq; rw [hx1] at hq; dsimp only at hq; rw [hx2] at hq; dsimp only at hq; rw [hx3] at hq
        injection hq with h1 h2; injection h1 with h3 h4; injection h4 with h5 h6; exact ⟨by omega, h5, h6, h2⟩
      have hx1h := Lib.hid hx1; have hx2h := Lib.hid hx2; have hx3h := Lib.hid hx3
      clear hq hx1 hx2 hx3 hxl
      go_wp2_with (first | (go_at_call 39; refine (pnum_rs _ rb vb rc 4 G.E.p G.E.s (by unfold Wd; omega) G.E.l).mono ?_; rintro e w2 ⟨he, hs2, hu2⟩; simp only [hx1h.out] at he hs2; subst he; have G2 := G.call hs2 hu2 l1.out; have t2 := G2.E.b.at 0 rfl) | (go_at_call 40; refine (ptext_rs _ rb vb rx1 1 255 G2.E.p G2.E.s (by omega) G2.E.l (by unfold Big; omega)).mono ?_; rintro e w3 ⟨he, hs3, hu3⟩; simp only [hx2h.out] at he hs3; subst he; have G3 := G2.call hs3 hu3 l2.out; have t3 := G3.E.b.at 0 rfl) | (go_at_call 40; refine (ptext_rs _ rb vb rx2 1 255 G3.E.p G3.E.s (by omega) G3.E.l (by unfold Big; omega)).mono ?_; rintro e w4 ⟨he, hs4, hu4⟩; simp only [hx3h.out] at he hs4; subst he; have G4 := G3.call hs4 hu4 l3.out; have p3 := G4.P.at 3 rfl; have y3 := G4.P.frozen 3; have p4 := G4.P.at 4 rfl; have y4 := G4.P.frozen 4; have p5 := G4.P.at 5 rfl; have y5 := G4.P.frozen 5))
      go_meet
      exact ⟨rfl, ((G4.set 3 _).set 4 _).set 5 _⟩
  case rest =>
  obtain ⟨rfl, G2⟩ := hcut
  clear G
  have G := G2
  clear G2
  go_upto_if 49 with fail
  have t0 := G.E.b.at 0 rfl
  cases wb
  · go_upto_region 15 with fail
    have hpq := Lib.hid (show egP L = ((EnT.mk (k : Int) name (n : Int) ((xf : Int), xg, xb) (.slice none 0 0) (.slice none 0 0) [] []).e, rd) by exact hpqh.out _ rfl)
    have hwf := Lib.hid (show (EnT.mk (k : Int) name (n : Int) ((xf : Int), xg, xb) (.slice none 0 0) (.slice none 0 0) [] []).e.Wf by have h9 := egP_wf L; rw [hpq.out] at h9; exact h9)
    have hrd := Lib.hid (show EnRd (fun i => w.heap.size ≤ i) wc (EnT.mk (k : Int) name (n : Int) ((xf : Int), xg, xb) (.slice none 0 0) (.slice none 0 0) [] []) from ⟨Slc.nil _ _ _, (fun i e => by cases e), (fun x hx => absurd hx (by simp)), Slc.nil _ _ _, (fun i e => by cases e), hwf.out⟩)
    have hend := Lib.hid (fun (v : World) (hB : Below wc.heap.size wc v) (v2 : World) (hu : Upd (fun i => i = w.heap.size + 1) v v2) => show EnRd (fun i => w.heap.size ≤ i) v2 (EnT.mk (k : Int) name (n : Int) ((xf : Int), xg, xb) (.slice none 0 0) (.slice none 0 0) [] []) from ⟨Slc.nil _ _ _, (fun i e => by cases e), (fun x hx => absurd hx (by simp)), Slc.nil _ _ _, (fun i e => by cases e), hwf.out⟩)
    obtain ⟨q, hq⟩ : ∃ q, (EnT.mk (k : Int) name (n : Int) ((xf : Int), xg, xb) (.slice none 0 0) (.slice none 0 0) [] []).e = q := ⟨_, rfl⟩
    have hput := eput_any (EnT.mk (k : Int) name (n : Int) ((xf : Int), xg, xb) (.slice none 0 0) (.slice none 0 0) [] []) (fun i => w.heap.size ≤ i) wc hrd.out (hT.pure G.T)
    obtain ⟨cx, hcx⟩ : ∃ cx, q.chk = cx := ⟨_, rfl⟩
    obtain ⟨tx, htx⟩ : ∃ tx, (if cx = 0 then q.text else (⟨#[]⟩ : ByteArray)) = tx := ⟨_, rfl⟩
    rw [hq, hcx, htx, EnT.arg_mk] at hput
    have hpqq := hpq.out
    rw [hq] at hpqq
    obtain ⟨⟨rE1, bad⟩, hrE⟩ : ∃ x, rd = x := ⟨_, rfl⟩
    rw [hrE] at hpqq
    have hE := G
    rw [hrE] at hE
    have hpq3 := Lib.hid hpqq
    have hputh := Lib.hid hput; have hqh := Lib.hid hq; have hcxh := Lib.hid hcx; have htxh := Lib.hid htx
    clear hput hq hcx htx hpqq hrE
    have p0 := hE.P.at 0 rfl; have p1 := hE.P.at 1 rfl; have p2 := hE.P.at 2 rfl; have p3 := hE.P.at 3 rfl; have p4 := hE.P.at 4 rfl; have p5 := hE.P.at 5 rfl; have p6 := hE.P.at 6 rfl; have p7 := hE.P.at 7 rfl
    by_cases hok : bad = false ∧ cx = 0 ∧ tx = s
    · obtain ⟨rfl, rfl, rfl⟩ := hok
      have hgoh := Lib.hid (egO_ok hpq3.out rfl hcxh.out (by have h1 := htxh.out; rw [if_pos rfl] at h1; exact (en_text.1 h1).trans hLeh.out))
      go_wp2_with (first | (go_at_call 8; refine (hputh.out).mono ?_; rintro e w80 ⟨rfl, hB80⟩; have G80 := hE.pure hB80; clear p0 p1 p2 p3 p4 p5 p6 p7; have p0 := G80.P.at 0 rfl; have p1 := G80.P.at 1 rfl; have p2 := G80.P.at 2 rfl; have p3 := G80.P.at 3 rfl; have p4 := G80.P.at 4 rfl; have p5 := G80.P.at 5 rfl; have p6 := G80.P.at 6 rfl; have p7 := G80.P.at 7 rfl; have z0 := G80.Z.at 0 rfl; have z1 := G80.Z.at 1 rfl; have z2 := G80.Z.at 2 rfl; have z3 := G80.Z.at 3 rfl; have z4 := G80.Z.at 4 rfl; have z5 := G80.Z.at 5 rfl; have z6 := G80.Z.at 6 rfl; have z7 := G80.Z.at 7 rfl; have y0 := G80.Z.frozen 0; have y1 := G80.Z.frozen 1; have y2 := G80.Z.frozen 2; have y3 := G80.Z.frozen 3; have y4 := G80.Z.frozen 4; have y5 := G80.Z.frozen 5; have y6 := G80.Z.frozen 6; have y7 := G80.Z.frozen 7; have t80 := G80.E.b.at 0 rfl; have s80 := G80.S.at 0 rfl) | (go_at_call 46; (with_reducible refine (bad_any _ rb vb rE1 _ G80.E.p G80.E.s).mono ?_); rintro e _ ⟨rfl, rfl⟩))
      have hv := Upd.at8 w80 (w.heap.size + 1) (.int .u8 k) (.string name) (.int .u64 (n : Int)) (.int .u32 (xf : Int)) (.string xg) (.string xb) (.slice none 0 0) (.slice none 0 0)
      have K9 := G80.Z.fresh8 (.int .u8 k) (.string name) (.int .u64 (n : Int)) (.int .u32 (xf : Int)) (.string xg) (.string xb) (.slice none 0 0) (.slice none 0 0)
      unfold set8 at hv K9
      have k0 := K9.at 0 rfl; have k1 := K9.at 1 rfl; have k2 := K9.at 2 rfl; have k3 := K9.at 3 rfl; have k4 := K9.at 4 rfl; have k5 := K9.at 5 rfl; have k6 := K9.at 6 rfl; have k7 := K9.at 7 rfl
      refine bodyPost_ret (by simp [results, Tryz.results12, go_sem, k0, k1, k2, k3, k4, k5, k6, k7]; rfl) rfl ?_
      have hTz := G80.T.trans (hv.below G80.T.size (fun i e => by omega))
      exact ⟨(EnT.mk (k : Int) name (n : Int) ((xf : Int), xg, xb) (.slice none 0 0) (.slice none 0 0) [] []), by rw [hgoh.out]; rfl, by rw [hgoh.out]; exact hqh.out, hend.out w80 hB80 _ hv, hTz⟩
    have hgoh := Lib.hid (show egO L = none from egO_no hpq3.out (fun e => hok ⟨e.1, hcxh.out.symm.trans e.2.1, by have h1 := htxh.out; rw [if_pos (hcxh.out.symm.trans e.2.1)] at h1; rw [← h1]; exact en_text.2 (e.2.2.trans hLeh.out.symm)⟩))
    cases bad
    rotate_left 1
    · clear hok
      go_wp2_with (first | (go_at_call 8; refine (hputh.out).mono ?_; rintro e w80 ⟨rfl, hB80⟩; have G80 := hE.pure hB80; clear p0 p1 p2 p3 p4 p5 p6 p7; have p0 := G80.P.at 0 rfl; have p1 := G80.P.at 1 rfl; have p2 := G80.P.at 2 rfl; have p3 := G80.P.at 3 rfl; have p4 := G80.P.at 4 rfl; have p5 := G80.P.at 5 rfl; have p6 := G80.P.at 6 rfl; have p7 := G80.P.at 7 rfl; have z0 := G80.Z.at 0 rfl; have z1 := G80.Z.at 1 rfl; have z2 := G80.Z.at 2 rfl; have z3 := G80.Z.at 3 rfl; have z4 := G80.Z.at 4 rfl; have z5 := G80.Z.at 5 rfl; have z6 := G80.Z.at 6 rfl; have z7 := G80.Z.at 7 rfl; have y0 := G80.Z.frozen 0; have y1 := G80.Z.frozen 1; have y2 := G80.Z.frozen 2; have y3 := G80.Z.frozen 3; have y4 := G80.Z.frozen 4; have y5 := G80.Z.frozen 5; have y6 := G80.Z.frozen 6; have y7 := G80.Z.frozen 7; have t80 := G80.E.b.at 0 rfl; have s80 := G80.S.at 0 rfl) | (go_at_call 46; (with_reducible refine (bad_any _ rb vb rE1 _ G80.E.p G80.E.s).mono ?_); rintro e _ ⟨rfl, rfl⟩))
      have hv := Upd.at8 w80 (w.heap.size + 1) (.int .u8 0) (.string ⟨#[]⟩) (.int .u64 0) (.int .u32 0) (.string ⟨#[]⟩) (.string ⟨#[]⟩) (.slice none 0 0) (.slice none 0 0)
      have K9 := G80.Z.fresh8 (.int .u8 0) (.string ⟨#[]⟩) (.int .u64 0) (.int .u32 0) (.string ⟨#[]⟩) (.string ⟨#[]⟩) (.slice none 0 0) (.slice none 0 0)
      unfold set8 at hv K9
      have k0 := K9.at 0 rfl; have k1 := K9.at 1 rfl; have k2 := K9.at 2 rfl; have k3 := K9.at 3 rfl; have k4 := K9.at 4 rfl; have k5 := K9.at 5 rfl; have k6 := K9.at 6 rfl; have k7 := K9.at 7 rfl
      refine bodyPost_ret (by simp [results, Tryz.results12, go_sem, k0, k1, k2, k3, k4, k5, k6, k7]; rfl) rfl ?_
      have hTz := G80.T.trans (hv.below G80.T.size (fun i e => by omega))
      exact ⟨(EnT.mk 0 ⟨#[]⟩ 0 (0, ⟨#[]⟩, ⟨#[]⟩) (.slice none 0 0) (.slice none 0 0) [] []), by rw [hgoh.out]; rfl, by rw [hgoh.out]; rfl, zen_rd, hTz⟩
    by_cases hc : cx = 0
    rotate_left 1
    · have g1 : (cx != 0) = true := bne_iff_ne.2 hc
      have g2 : (cx == 0) = false := beq_eq_false_iff_ne.2 hc
      clear hok hc
      go_wp2_with (first | (go_at_call 8; refine (hputh.out).mono ?_; rintro e w80 ⟨rfl, hB80⟩; have G80 := hE.pure hB80; clear p0 p1 p2 p3 p4 p5 p6 p7; have p0 := G80.P.at 0 rfl; have p1 := G80.P.at 1 rfl; have p2 := G80.P.at 2 rfl; have p3 := G80.P.at 3 rfl; have p4 := G80.P.at 4 rfl; have p5 := G80.P.at 5 rfl; have p6 := G80.P.at 6 rfl; have p7 := G80.P.at 7 rfl; have z0 := G80.Z.at 0 rfl; have z1 := G80.Z.at 1 rfl; have z2 := G80.Z.at 2 rfl; have z3 := G80.Z.at 3 rfl; have z4 := G80.Z.at 4 rfl; have z5 := G80.Z.at 5 rfl; have z6 := G80.Z.at 6 rfl; have z7 := G80.Z.at 7 rfl; have y0 := G80.Z.frozen 0; have y1 := G80.Z.frozen 1; have y2 := G80.Z.frozen 2; have y3 := G80.Z.frozen 3; have y4 := G80.Z.frozen 4; have y5 := G80.Z.frozen 5; have y6 := G80.Z.frozen 6; have y7 := G80.Z.frozen 7; have t80 := G80.E.b.at 0 rfl; have s80 := G80.S.at 0 rfl) | (go_at_call 46; (with_reducible refine (bad_any _ rb vb rE1 _ G80.E.p G80.E.s).mono ?_); rintro e _ ⟨rfl, rfl⟩))
      have hv := Upd.at8 w80 (w.heap.size + 1) (.int .u8 0) (.string ⟨#[]⟩) (.int .u64 0) (.int .u32 0) (.string ⟨#[]⟩) (.string ⟨#[]⟩) (.slice none 0 0) (.slice none 0 0)
      have K9 := G80.Z.fresh8 (.int .u8 0) (.string ⟨#[]⟩) (.int .u64 0) (.int .u32 0) (.string ⟨#[]⟩) (.string ⟨#[]⟩) (.slice none 0 0) (.slice none 0 0)
      unfold set8 at hv K9
      have k0 := K9.at 0 rfl; have k1 := K9.at 1 rfl; have k2 := K9.at 2 rfl; have k3 := K9.at 3 rfl; have k4 := K9.at 4 rfl; have k5 := K9.at 5 rfl; have k6 := K9.at 6 rfl; have k7 := K9.at 7 rfl
      refine bodyPost_ret (by simp [results, Tryz.results12, go_sem, k0, k1, k2, k3, k4, k5, k6, k7]; rfl) rfl ?_
      have hTz := G80.T.trans (hv.below G80.T.size (fun i e => by omega))
      exact ⟨(EnT.mk 0 ⟨#[]⟩ 0 (0, ⟨#[]⟩, ⟨#[]⟩) (.slice none 0 0) (.slice none 0 0) [] []), by rw [hgoh.out]; rfl, by rw [hgoh.out]; rfl, zen_rd, hTz⟩
    subst hc
    have hne : tx ≠ s := fun e => hok ⟨rfl, rfl, e⟩
    have g1 : ¬ tx.toList = s.toList := ba_toList_ne hne
    have g2 : (tx.toList == s.toList) = false := beq_eq_false_iff_ne.2 g1
    have g3 : (tx != s) = true := ba_bne hne
    clear hok hne
    go_wp2_with (first | (go_at_call 8; refine (hputh.out).mono ?_; rintro e w80 ⟨rfl, hB80⟩; have G80 := hE.pure hB80; clear p0 p1 p2 p3 p4 p5 p6 p7; have p0 := G80.P.at 0 rfl; have p1 := G80.P.at 1 rfl; have p2 := G80.P.at 2 rfl; have p3 := G80.P.at 3 rfl; have p4 := G80.P.at 4 rfl; have p5 := G80.P.at 5 rfl; have p6 := G80.P.at 6 rfl; have p7 := G80.P.at 7 rfl; have z0 := G80.Z.at 0 rfl; have z1 := G80.Z.at 1 rfl; have z2 := G80.Z.at 2 rfl; have z3 := G80.Z.at 3 rfl; have z4 := G80.Z.at 4 rfl; have z5 := G80.Z.at 5 rfl; have z6 := G80.Z.at 6 rfl; have z7 := G80.Z.at 7 rfl; have y0 := G80.Z.frozen 0; have y1 := G80.Z.frozen 1; have y2 := G80.Z.frozen 2; have y3 := G80.Z.frozen 3; have y4 := G80.Z.frozen 4; have y5 := G80.Z.frozen 5; have y6 := G80.Z.frozen 6; have y7 := G80.Z.frozen 7; have t80 := G80.E.b.at 0 rfl; have s80 := G80.S.at 0 rfl) | (go_at_call 46; (with_reducible refine (bad_any _ rb vb rE1 _ G80.E.p G80.E.s).mono ?_); rintro e _ ⟨rfl, rfl⟩))
    have hv := Upd.at8 w80 (w.heap.size + 1) (.int .u8 0) (.string ⟨#[]⟩) (.int .u64 0) (.int .u32 0) (.string ⟨#[]⟩) (.string ⟨#[]⟩) (.slice none 0 0) (.slice none 0 0)
    have K9 := G80.Z.fresh8 (.int .u8 0) (.string ⟨#[]⟩) (.int .u64 0) (.int .u32 0) (.string ⟨#[]⟩) (.string ⟨#[]⟩) (.slice none 0 0) (.slice none 0 0)
    unfold set8 at hv K9
    have k0 := K9.at 0 rfl; have k1 := K9.at 1 rfl; have k2 := K9.at 2 rfl; have k3 := K9.at 3 rfl; have k4 := K9.at 4 rfl; have k5 := K9.at 5 rfl; have k6 := K9.at 6 rfl; have k7 := K9.at 7 rfl
    refine bodyPost_ret (by simp [results, Tryz.results12, go_sem, k0, k1, k2, k3, k4, k5, k6, k7]; rfl) rfl ?_
    have hTz := G80.T.trans (hv.below G80.T.size (fun i e => by omega))
    exact ⟨(EnT.mk 0 ⟨#[]⟩ 0 (0, ⟨#[]⟩, ⟨#[]⟩) (.slice none 0 0) (.slice none 0 0) [] []), by rw [hgoh.out]; rfl, by rw [hgoh.out]; rfl, zen_rd, hTz⟩
  have hp0 := Lib.hid (show pb < wc.heap.size ∧ w.heap.size ≤ wc.heap.size from ⟨G.P.lt, G.T.size⟩)
  go_upto_region 14 with (go_at_call 41; refine (getall1_any _ tb w.heap.size rb vb rd s G.E G.S (by have h1 := G.o1; omega) hsz.out (fun v hv => hT.pure (below_only G.T hv (by have h1 := G.o1; omega) G.T.size))).mono ?_; rintro e wA ⟨v, puts, he, hpm, H⟩; obtain ⟨pa, pc, rfl⟩ := own_lenB H.o; subst he; have hpmh := Lib.hid hpm; clear hpm; have GA := G.callE H.e H.up; have hG := Lib.hid (And.intro H.o H.rd); clear H; have p6 := GA.P.at 6 rfl; have y6 := GA.P.frozen 6)
  have GB := GA.set 6 (.slice pa puts.length pc)
  have hu51 := Upd.set (S := fun k => k = pb) (w := wA) (p := ⟨pb, 6, none⟩) rfl (.slice pa puts.length pc)
  have O51 := hG.out.1.upd hu51 (fun i hi e => by have h1 := hG.out.1.ge hi; have h2 := hp0.out; omega)
  have R51 := fun x hx => (hG.out.2 x hx).upd hu51 (fun i hi e => by have h1 := hi.1; have h2 := hp0.out; omega)
  generalize World.setCell wA _ _ = w51 at *
  clear p6 y6 t0 GA hG
  have GB : GP w w51 tb pb rb vb s (gtA (rdPt s.size) (nmR 1 rd).1 (nmR 1 rd).2).2 [.int .u8 k, .string name, .int .u64 (n : Int), .int .u32 (xf : Int), .string xg, .string xb, .slice pa puts.length pc, .slice none 0 0] := GB
  have hp1 := Lib.hid (show pb < w51.heap.size ∧ w.heap.size ≤ w51.heap.size from ⟨GB.P.lt, GB.T.size⟩)
  have OR := Lib.hid (And.intro O51 R51)
  clear O51 R51 hu51
  have t0 := GB.E.b.at 0 rfl
  go_upto_region 15 with (go_at_call 44; refine (getall2_any _ tb rb vb (gtA (rdPt s.size) (nmR 1 rd).1 (nmR 1 rd).2).2 GB.E).mono ?_; rintro e wB ⟨v, takes, he, htm, H⟩; obtain ⟨ta, tc, rfl⟩ := own_lenB H.o; subst he; have htmh := Lib.hid htm; clear htm; have GC := GB.callE H.e H.up; have hHo := Lib.hid H.o; have hHu := Lib.hid H.up; clear H; have p7 := GC.P.at 7 rfl; have y7 := GC.P.frozen 7)
  have GD := GC.set 7 (.slice ta takes.length tc)
  have hu53 := Upd.set (S := fun k => k = pb) (w := wB) (p := ⟨pb, 7, none⟩) rfl (.slice ta takes.length tc)
  have hov := Lib.hid (show vb < pb by have h1 := GC.o2; have h2 := GC.E.v; omega)
  have O53 := (OR.out.1.upd hHu.out (fun i hi e => by have h1 := OR.out.1.ge hi; have h2 := hp0.out; have h3 := hov.out; unfold Only at e; omega)).upd hu53 (fun i hi e => by have h1 := OR.out.1.ge hi; have h2 := hp0.out; omega)
  have R53 := fun x hx => ((OR.out.2 x hx).upd hHu.out (fun i hi e => by have h1 := hi.1; have h2 := hp0.out; have h3 := hov.out; unfold Only at e; omega)).upd hu53 (fun i hi e => by have h1 := hi.1; have h2 := hp0.out; omega)
  have H53 := hHo.out.upd hu53 (fun i hi e => by have h1 := hHo.out.ge hi; have h2 := hp1.out; omega)
  generalize World.setCell wB _ _ = w53 at *
  clear p7 y7 t0 GC hu53 GB
  have GD : GP w w53 tb pb rb vb s (gtA rdRf (nmR 1 (gtA (rdPt s.size) (nmR 1 rd).1 (nmR 1 rd).2).2).1 (nmR 1 (gtA (rdPt s.size) (nmR 1 rd).1 (nmR 1 rd).2).2).2).2 [.int .u8 k, .string name, .int .u64 (n : Int), .int .u32 (xf : Int), .string xg, .string xb, .slice pa puts.length pc, .slice ta takes.length tc] := GD
  have OW := Lib.hid (And.intro O53 (And.intro R53 H53))
  have hz9 := Lib.hid (show w.heap.size + 1 < pb by have h1 := GD.o1; have h2 := hov.out; omega)
  clear O53 R53 H53
  have hpq := Lib.hid (show egP L = ((EnT.mk (k : Int) name (n : Int) ((xf : Int), xg, xb) (.slice pa puts.length pc) (.slice ta takes.length tc) puts takes).e, (gtA rdRf (nmR 1 (gtA (rdPt s.size) (nmR 1 rd).1 (nmR 1 rd).2).2).1 (nmR 1 (gtA (rdPt s.size) (nmR 1 rd).1 (nmR 1 rd).2).2).2).2) by rw [hpqh.out (rdW L.length rd) rfl, hLlh.out]; unfold EnT.e rdW; dsimp only; rw [hpmh.out, htmh.out])
  have hwf := Lib.hid (show (EnT.mk (k : Int) name (n : Int) ((xf : Int), xg, xb) (.slice pa puts.length pc) (.slice ta takes.length tc) puts takes).e.Wf by have h9 := egP_wf L; rw [hpq.out] at h9; exact h9)
  have hrd := Lib.hid (show EnRd (fun i => w.heap.size ≤ i) w53 (EnT.mk (k : Int) name (n : Int) ((xf : Int), xg, xb) (.slice pa puts.length pc) (.slice ta takes.length tc) puts takes) from ⟨OW.out.1.slc ptEnc_len, (fun i hi _ => by have h1 := OW.out.1.ge hi; have h2 := hp0.out; omega), (fun x hx => (OW.out.2.1 x hx).weaken (fun i _ hi => by have h1 := hi.1; have h2 := hp0.out; omega)), OW.out.2.2.slc rfEnc_len, (fun i hi _ => by have h1 := OW.out.2.2.ge hi; have h2 := hp1.out; omega), hwf.out⟩)
  have hend := Lib.hid (fun (v : World) (hB : Below w53.heap.size w53 v) (v2 : World) (hu : Upd (fun i => i = w.heap.size + 1) v v2) => show EnRd (fun i => w.heap.size ≤ i) v2 (EnT.mk (k : Int) name (n : Int) ((xf : Int), xg, xb) (.slice pa puts.length pc) (.slice ta takes.length tc) puts takes) from ⟨((OW.out.1.pure hB).upd hu (fun i hi e => by have h1 := OW.out.1.ge hi; have h2 := hp0.out; have h3 := hz9.out; omega)).slc ptEnc_len, (fun i hi _ => by have h1 := OW.out.1.ge hi; have h2 := hp0.out; omega), (fun x hx => (((OW.out.2.1 x hx).pure hB).upd hu (fun i hi e => by have h1 := hi.1; have h2 := hp0.out; have h3 := hz9.out; omega)).weaken (fun i _ hi => by have h1 := hi.1; have h2 := hp0.out; omega)), ((OW.out.2.2.pure hB).upd hu (fun i hi e => by have h1 := OW.out.2.2.ge hi; have h2 := hp1.out; have h3 := hz9.out; omega)).slc rfEnc_len, (fun i hi _ => by have h1 := OW.out.2.2.ge hi; have h2 := hp1.out; omega), hwf.out⟩)
  obtain ⟨q, hq⟩ : ∃ q, (EnT.mk (k : Int) name (n : Int) ((xf : Int), xg, xb) (.slice pa puts.length pc) (.slice ta takes.length tc) puts takes).e = q := ⟨_, rfl⟩
  have hput := eput_any (EnT.mk (k : Int) name (n : Int) ((xf : Int), xg, xb) (.slice pa puts.length pc) (.slice ta takes.length tc) puts takes) (fun i => w.heap.size ≤ i) w53 hrd.out (hT.pure GD.T)
  obtain ⟨cx, hcx⟩ : ∃ cx, q.chk = cx := ⟨_, rfl⟩
  obtain ⟨tx, htx⟩ : ∃ tx, (if cx = 0 then q.text else (⟨#[]⟩ : ByteArray)) = tx := ⟨_, rfl⟩
  rw [hq, hcx, htx, EnT.arg_mk] at hput
  have hpqq := hpq.out
  rw [hq] at hpqq
  obtain ⟨⟨rE1, bad⟩, hrE⟩ : ∃ x, (gtA rdRf (nmR 1 (gtA (rdPt s.size) (nmR 1 rd).1 (nmR 1 rd).2).2).1 (nmR 1 (gtA (rdPt s.size) (nmR 1 rd).1 (nmR 1 rd).2).2).2).2 = x := ⟨_, rfl⟩
  rw [hrE] at hpqq
  have hE := GD
  rw [hrE] at hE
  have hpq3 := Lib.hid hpqq
  have hputh := Lib.hid hput; have hqh := Lib.hid hq; have hcxh := Lib.hid hcx; have htxh := Lib.hid htx
  clear hput hq hcx htx hpqq hrE
  have p0 := hE.P.at 0 rfl; have p1 := hE.P.at 1 rfl; have p2 := hE.P.at 2 rfl; have p3 := hE.P.at 3 rfl; have p4 := hE.P.at 4 rfl; have p5 := hE.P.at 5 rfl; have p6 := hE.P.at 6 rfl; have p7 := hE.P.at 7 rfl
  by_cases hok : bad = false ∧ cx = 0 ∧ tx = s
  · obtain ⟨rfl, rfl, rfl⟩ := hok
    have hgoh := Lib.hid (egO_ok hpq3.out rfl hcxh.out (by have h1 := htxh.out; rw [if_pos rfl] at h1; exact (en_text.1 h1).trans hLeh.out))
    go_wp2_with (first | (go_at_call 8; refine (hputh.out).mono ?_; rintro e w80 ⟨rfl, hB80⟩; have G80 := hE.pure hB80; clear p0 p1 p2 p3 p4 p5 p6 p7; have p0 := G80.P.at 0 rfl; have p1 := G80.P.at 1 rfl; have p2 := G80.P.at 2 rfl; have p3 := G80.P.at 3 rfl; have p4 := G80.P.at 4 rfl; have p5 := G80.P.at 5 rfl; have p6 := G80.P.at 6 rfl; have p7 := G80.P.at 7 rfl; have z0 := G80.Z.at 0 rfl; have z1 := G80.Z.at 1 rfl; have z2 := G80.Z.at 2 rfl; have z3 := G80.Z.at 3 rfl; have z4 := G80.Z.at 4 rfl; have z5 := G80.Z.at 5 rfl; have z6 := G80.Z.at 6 rfl; have z7 := G80.Z.at 7 rfl; have y0 := G80.Z.frozen 0; have y1 := G80.Z.frozen 1; have y2 := G80.Z.frozen 2; have y3 := G80.Z.frozen 3; have y4 := G80.Z.frozen 4; have y5 := G80.Z.frozen 5; have y6 := G80.Z.frozen 6; have y7 := G80.Z.frozen 7; have t80 := G80.E.b.at 0 rfl; have s80 := G80.S.at 0 rfl) | (go_at_call 46; (with_reducible refine (bad_any _ rb vb rE1 _ G80.E.p G80.E.s).mono ?_); rintro e _ ⟨rfl, rfl⟩))
    have hv := Upd.at8 w80 (w.heap.size + 1) (.int .u8 k) (.string name) (.int .u64 (n : Int)) (.int .u32 (xf : Int)) (.string xg) (.string xb) (.slice pa puts.length pc) (.slice ta takes.length tc)
    have K9 := G80.Z.fresh8 (.int .u8 k) (.string name) (.int .u64 (n : Int)) (.int .u32 (xf : Int)) (.string xg) (.string xb) (.slice pa puts.length pc) (.slice ta takes.length tc)
    unfold set8 at hv K9
    have k0 := K9.at 0 rfl; have k1 := K9.at 1 rfl; have k2 := K9.at 2 rfl; have k3 := K9.at 3 rfl; have k4 := K9.at 4 rfl; have k5 := K9.at 5 rfl; have k6 := K9.at 6 rfl; have k7 := K9.at 7 rfl
    refine bodyPost_ret (by simp [results, Tryz.results12, go_sem, k0, k1, k2, k3, k4, k5, k6, k7]; rfl) rfl ?_
    have hTz := G80.T.trans (hv.below G80.T.size (fun i e => by omega))
    exact ⟨(EnT.mk (k : Int) name (n : Int) ((xf : Int), xg, xb) (.slice pa puts.length pc) (.slice ta takes.length tc) puts takes), by rw [hgoh.out]; rfl, by rw [hgoh.out]; exact hqh.out, hend.out w80 hB80 _ hv, hTz⟩
  have hgoh := Lib.hid (show egO L = none from egO_no hpq3.out (fun e => hok ⟨e.1, hcxh.out.symm.trans e.2.1, by have h1 := htxh.out; rw [if_pos (hcxh.out.symm.trans e.2.1)] at h1; rw [← h1]; exact en_text.2 (e.2.2.trans hLeh.out.symm)⟩))
  cases bad
  rotate_left 1
  · clear hok
    go_wp2_with (first | (go_at_call 8; refine (hputh.out).mono ?_; rintro e w80 ⟨rfl, hB80⟩; have G80 := hE.pure hB80; clear p0 p1 p2 p3 p4 p5 p6 p7; have p0 := G80.P.at 0 rfl; have p1 := G80.P.at 1 rfl; have p2 := G80.P.at 2 rfl; have p3 := G80.P.at 3 rfl; have p4 := G80.P.at 4 rfl; have p5 := G80.P.at 5 rfl; have p6 := G80.P.at 6 rfl; have p7 := G80.P.at 7 rfl; have z0 := G80.Z.at 0 rfl; have z1 := G80.Z.at 1 rfl; have z2 := G80.Z.at 2 rfl; have z3 := G80.Z.at 3 rfl; have z4 := G80.Z.at 4 rfl; have z5 := G80.Z.at 5 rfl; have z6 := G80.Z.at 6 rfl; have z7 := G80.Z.at 7 rfl; have y0 := G80.Z.frozen 0; have y1 := G80.Z.frozen 1; have y2 := G80.Z.frozen 2; have y3 := G80.Z.frozen 3; have y4 := G80.Z.frozen 4; have y5 := G80.Z.frozen 5; have y6 := G80.Z.frozen 6; have y7 := G80.Z.frozen 7; have t80 := G80.E.b.at 0 rfl; have s80 := G80.S.at 0 rfl) | (go_at_call 46; (with_reducible refine (bad_any _ rb vb rE1 _ G80.E.p G80.E.s).mono ?_); rintro e _ ⟨rfl, rfl⟩))
    have hv := Upd.at8 w80 (w.heap.size + 1) (.int .u8 0) (.string ⟨#[]⟩) (.int .u64 0) (.int .u32 0) (.string ⟨#[]⟩) (.string ⟨#[]⟩) (.slice none 0 0) (.slice none 0 0)
    have K9 := G80.Z.fresh8 (.int .u8 0) (.string ⟨#[]⟩) (.int .u64 0) (.int .u32 0) (.string ⟨#[]⟩) (.string ⟨#[]⟩) (.slice none 0 0) (.slice none 0 0)
    unfold set8 at hv K9
    have k0 := K9.at 0 rfl; have k1 := K9.at 1 rfl; have k2 := K9.at 2 rfl; have k3 := K9.at 3 rfl; have k4 := K9.at 4 rfl; have k5 := K9.at 5 rfl; have k6 := K9.at 6 rfl; have k7 := K9.at 7 rfl
    refine bodyPost_ret (by simp [results, Tryz.results12, go_sem, k0, k1, k2, k3, k4, k5, k6, k7]; rfl) rfl ?_
    have hTz := G80.T.trans (hv.below G80.T.size (fun i e => by omega))
    exact ⟨(EnT.mk 0 ⟨#[]⟩ 0 (0, ⟨#[]⟩, ⟨#[]⟩) (.slice none 0 0) (.slice none 0 0) [] []), by rw [hgoh.out]; rfl, by rw [hgoh.out]; rfl, zen_rd, hTz⟩
  by_cases hc : cx = 0
  rotate_left 1
  · have g1 : (cx != 0) = true := bne_iff_ne.2 hc
    have g2 : (cx == 0) = false := beq_eq_false_iff_ne.2 hc
    clear hok hc
    go_wp2_with (first | (go_at_call 8; refine (hputh.out).mono ?_; rintro e w80 ⟨rfl, hB80⟩; have G80 := hE.pure hB80; clear p0 p1 p2 p3 p4 p5 p6 p7; have p0 := G80.P.at 0 rfl; have p1 := G80.P.at 1 rfl; have p2 := G80.P.at 2 rfl; have p3 := G80.P.at 3 rfl; have p4 := G80.P.at 4 rfl; have p5 := G80.P.at 5 rfl; have p6 := G80.P.at 6 rfl; have p7 := G80.P.at 7 rfl; have z0 := G80.Z.at 0 rfl; have z1 := G80.Z.at 1 rfl; have z2 := G80.Z.at 2 rfl; have z3 := G80.Z.at 3 rfl; have z4 := G80.Z.at 4 rfl; have z5 := G80.Z.at 5 rfl; have z6 := G80.Z.at 6 rfl; have z7 := G80.Z.at 7 rfl; have y0 := G80.Z.frozen 0; have y1 := G80.Z.frozen 1; have y2 := G80.Z.frozen 2; have y3 := G80.Z.frozen 3; have y4 := G80.Z.frozen 4; have y5 := G80.Z.frozen 5; have y6 := G80.Z.frozen 6; have y7 := G80.Z.frozen 7; have t80 := G80.E.b.at 0 rfl; have s80 := G80.S.at 0 rfl) | (go_at_call 46; (with_reducible refine (bad_any _ rb vb rE1 _ G80.E.p G80.E.s).mono ?_); rintro e _ ⟨rfl, rfl⟩))
    have hv := Upd.at8 w80 (w.heap.size + 1) (.int .u8 0) (.string ⟨#[]⟩) (.int .u64 0) (.int .u32 0) (.string ⟨#[]⟩) (.string ⟨#[]⟩) (.slice none 0 0) (.slice none 0 0)
    have K9 := G80.Z.fresh8 (.int .u8 0) (.string ⟨#[]⟩) (.int .u64 0) (.int .u32 0) (.string ⟨#[]⟩) (.string ⟨#[]⟩) (.slice none 0 0) (.slice none 0 0)
    unfold set8 at hv K9
    have k0 := K9.at 0 rfl; have k1 := K9.at 1 rfl; have k2 := K9.at 2 rfl; have k3 := K9.at 3 rfl; have k4 := K9.at 4 rfl; have k5 := K9.at 5 rfl; have k6 := K9.at 6 rfl; have k7 := K9.at 7 rfl
    refine bodyPost_ret (by simp [results, Tryz.results12, go_sem, k0, k1, k2, k3, k4, k5, k6, k7]; rfl) rfl ?_
    have hTz := G80.T.trans (hv.below G80.T.size (fun i e => by omega))
    exact ⟨(EnT.mk 0 ⟨#[]⟩ 0 (0, ⟨#[]⟩, ⟨#[]⟩) (.slice none 0 0) (.slice none 0 0) [] []), by rw [hgoh.out]; rfl, by rw [hgoh.out]; rfl, zen_rd, hTz⟩
  subst hc
  have hne : tx ≠ s := fun e => hok ⟨rfl, rfl, e⟩
  have g1 : ¬ tx.toList = s.toList := ba_toList_ne hne
  have g2 : (tx.toList == s.toList) = false := beq_eq_false_iff_ne.2 g1
  have g3 : (tx != s) = true := ba_bne hne
  clear hok hne
  go_wp2_with (first | (go_at_call 8; refine (hputh.out).mono ?_; rintro e w80 ⟨rfl, hB80⟩; have G80 := hE.pure hB80; clear p0 p1 p2 p3 p4 p5 p6 p7; have p0 := G80.P.at 0 rfl; have p1 := G80.P.at 1 rfl; have p2 := G80.P.at 2 rfl; have p3 := G80.P.at 3 rfl; have p4 := G80.P.at 4 rfl; have p5 := G80.P.at 5 rfl; have p6 := G80.P.at 6 rfl; have p7 := G80.P.at 7 rfl; have z0 := G80.Z.at 0 rfl; have z1 := G80.Z.at 1 rfl; have z2 := G80.Z.at 2 rfl; have z3 := G80.Z.at 3 rfl; have z4 := G80.Z.at 4 rfl; have z5 := G80.Z.at 5 rfl; have z6 := G80.Z.at 6 rfl; have z7 := G80.Z.at 7 rfl; have y0 := G80.Z.frozen 0; have y1 := G80.Z.frozen 1; have y2 := G80.Z.frozen 2; have y3 := G80.Z.frozen 3; have y4 := G80.Z.frozen 4; have y5 := G80.Z.frozen 5; have y6 := G80.Z.frozen 6; have y7 := G80.Z.frozen 7; have t80 := G80.E.b.at 0 rfl; have s80 := G80.S.at 0 rfl) | (go_at_call 46; (with_reducible refine (bad_any _ rb vb rE1 _ G80.E.p G80.E.s).mono ?_); rintro e _ ⟨rfl, rfl⟩))
  have hv := Upd.at8 w80 (w.heap.size + 1) (.int .u8 0) (.string ⟨#[]⟩) (.int .u64 0) (.int .u32 0) (.string ⟨#[]⟩) (.string ⟨#[]⟩) (.slice none 0 0) (.slice none 0 0)
  have K9 := G80.Z.fresh8 (.int .u8 0) (.string ⟨#[]⟩) (.int .u64 0) (.int .u32 0) (.string ⟨#[]⟩) (.string ⟨#[]⟩) (.slice none 0 0) (.slice none 0 0)
  unfold set8 at hv K9
  have k0 := K9.at 0 rfl; have k1 := K9.at 1 rfl; have k2 := K9.at 2 rfl; have k3 := K9.at 3 rfl; have k4 := K9.at 4 rfl; have k5 := K9.at 5 rfl; have k6 := K9.at 6 rfl; have k7 := K9.at 7 rfl
  refine bodyPost_ret (by simp [results, Tryz.results12, go_sem, k0, k1, k2, k3, k4, k5, k6, k7]; rfl) rfl ?_
  have hTz := G80.T.trans (hv.below G80.T.size (fun i e => by omega))
  exact ⟨(EnT.mk 0 ⟨#[]⟩ 0 (0, ⟨#[]⟩, ⟨#[]⟩) (.slice none 0 0) (.slice none 0 0) [] []), by rw [hgoh.out]; rfl, by rw [hgoh.out]; rfl, zen_rd, hTz⟩
end Go.Proofs.YtflglpbjapgciaaGreatDoor

namespace Go.Proofs.YtflglpbjapgciaaGreatDoor
set_option linter.unusedSimpArgs false
set_option linter.unusedVariables false
open Go.RowKit
/-- Puts that lie in blocks of P. -/
structure CPt (P : Nat → Prop) (w : World) (lv : Value) (L : List PtT) : Prop where
  p : Slc ptEnc 12 w lv L
  pP : L ≠ [] → ∀ k, lv.ownBlock = some k → P k
  r : ∀ x ∈ L, Rd P w x.pr.app
theorem CSt.cpt {w0 w : World} {lv : Value} {L : List PtT} (h : CSt w0 w lv L) : CPt (fun i => w0.heap.size ≤ i ∧ i < w.heap.size) w lv L :=
  ⟨h.o.slc ptEnc_len, fun _ k e => ⟨h.o.ge e, h.o.lt e⟩, fun x hx => (h.rd x hx).weaken (fun i hi hm => ⟨hm.1, hi⟩)⟩
theorem CPt.weaken {P Q : Nat → Prop} {w : World} {lv : Value} {L : List PtT} (h : CPt P w lv L) (hq : ∀ k, P k → Q k) : CPt Q w lv L := ⟨h.p, fun n k e => hq k (h.pP n k e), fun x hx => (h.r x hx).weaken (fun k _ hk => hq k hk)⟩
theorem CPt.upd {P S : Nat → Prop} {w w' : World} {lv : Value} {L : List PtT} (h : CPt P w lv L) (hu : Upd S w w') (hS : ∀ k, P k → ¬ S k) : CPt P w' lv L := ⟨h.p.updL hu (fun e b hb => hS b (h.pP e b hb)), h.pP, fun x hx => (h.r x hx).upd hu hS⟩
theorem CPt.pure {P : Nat → Prop} {w w' : World} {lv : Value} {L : List PtT} (h : CPt P w lv L) (hB : Below w.heap.size w w') : CPt P w' lv L := ⟨h.p.pure hB, h.pP, fun x hx => (h.r x hx).pure hB⟩
set_option maxRecDepth 100000 in
set_option maxHeartbeats 12800000 in
theorem edcopy_any (t : EnT) (P : Nat → Prop) (w : World) (hR : EnRd P w t) (hs : SmEn t) : Calls Tryz.prog 7 #[t.arg] w fun e w' => ∃ t' : EnT, e = .returned t'.arg ∧ t'.e = t.e ∧ EnRd (fun i => w.heap.size ≤ i) w' t' ∧ Below w.heap.size w w' := by
  have hwf := Lib.hid hR.wf
  have hnt := hs.nt; have hnp := hs.np; have hsp := hs.puts
  obtain ⟨kind, name, n, xf, xg, xb, pa, pc, ta, tc, puts, takes, rfl, hml, hmk⟩ := hR.open
  rw [EnT.arg_mk]
  have hnt : takes.length ≤ 110 := hnt
  have hnp : (puts.length : Int) ≤ 110 := hnp
  have hsph := Lib.hid (show ∀ x ∈ puts, SmPt x from hsp)
  have hnn := Lib.hid (show takes.length ≤ 110 ∧ (puts.length : Int) ≤ 110 from ⟨hnt, hnp⟩)
  clear hs hsp hml hmk hnt hnp
  have hB2 := ((Below.refl w.heap.size w).alloc (Nat.le_refl _) (.cells #[.int .u8 kind, .string name, .int .u64 n, .int .u32 xf, .string xg, .string xb, .slice pa puts.length pc, .slice ta takes.length tc] 29)).alloc (by simp) (.cells #[.int .u8 0, .string ⟨#[]⟩, .int .u64 0, .int .u32 0, .string ⟨#[]⟩, .string ⟨#[]⟩, .slice none 0 0, .slice none 0 0] 29)
  have A2 := (Blk.new w [.int .u8 kind, .string name, .int .u64 n, .int .u32 xf, .string xg, .string xb, .slice pa puts.length pc, .slice ta takes.length tc] 29).alloc (.cells #[.int .u8 0, .string ⟨#[]⟩, .int .u64 0, .int .u32 0, .string ⟨#[]⟩, .string ⟨#[]⟩, .slice none 0 0, .slice none 0 0] 29)
  have Z2 := Blk.newK (w.alloc (.cells #[.int .u8 kind, .string name, .int .u64 n, .int .u32 xf, .string xg, .string xb, .slice pa puts.length pc, .slice ta takes.length tc] 29)) [.int .u8 0, .string ⟨#[]⟩, .int .u64 0, .int .u32 0, .string ⟨#[]⟩, .string ⟨#[]⟩, .slice none 0 0, .slice none 0 0] 29 (w.heap.size + 1) (by simp)
  have hz2 := Lib.hid (show ((w.alloc (.cells #[.int .u8 kind, .string name, .int .u64 n, .int .u32 xf, .string xg, .string xb, .slice pa puts.length pc, .slice ta takes.length tc] 29)).alloc (.cells #[.int .u8 0, .string ⟨#[]⟩, .int .u64 0, .int .u32 0, .string ⟨#[]⟩, .string ⟨#[]⟩, .slice none 0 0, .slice none 0 0] 29)).heap.size = w.heap.size + 2 by simp)
  have R2 := hR.pure hB2
  clear hR
  go_enter Tryz.func7, Tryz.ntmps7
  go_upto_region 1 with fail
  have hA2 := Lib.hid A2; have hZ2 := Lib.hid Z2; have hB2h := Lib.hid hB2; have hR2 := Lib.hid R2
  clear hB2 A2 Z2 R2
  generalize World.alloc (World.alloc w _) _ = W at *
  have hb := below_refl_dr W
  refine wp_region_held_drew (S := fun u => Below W.heap.size W u) (by kernel_rfl) hb (fun hHeld => ?_)
  refine takeY 0 4 rfl rfl (v := ?_) ?_ hHeld ?_
  rotate_left 1
  · (intro u hSw; (try dsimp only at hSw); clear hSw; go_simp; (try with_reducible rfl))
  try simp only [Act.put, lsT, lsZ, lsS]
  refine takeY 1 5 rfl rfl (v := ?_) ?_ hHeld ?_
  rotate_left 1
  · (intro u hSw; (try dsimp only at hSw); have q := (hA2.out.pure hSw).at 0 rfl; clear hSw; go_simp; (try with_reducible rfl))
  try simp only [Act.put, lsT, lsZ, lsS]
  refine takeY 2 6 rfl rfl (v := ?_) ?_ hHeld ?_
  rotate_left 1
  · (intro u hSw; (try dsimp only at hSw); clear hSw; go_simp; (try with_reducible rfl))
  try simp only [Act.put, lsT, lsZ, lsS]
  refine takeY 3 7 rfl rfl (v := ?_) ?_ hHeld ?_
  rotate_left 1
  · (intro u hSw; (try dsimp only at hSw); have q := (hA2.out.pure hSw).at 1 rfl; clear hSw; go_simp; (try with_reducible rfl))
  try simp only [Act.put, lsT, lsZ, lsS]
  refine takeY 4 8 rfl rfl (v := ?_) ?_ hHeld ?_
  rotate_left 1
  · (intro u hSw; (try dsimp only at hSw); clear hSw; go_simp; (try with_reducible rfl))
  try simp only [Act.put, lsT, lsZ, lsS]
  refine takeY 5 9 rfl rfl (v := ?_) ?_ hHeld ?_
  rotate_left 1
  · (intro u hSw; (try dsimp only at hSw); have q := (hA2.out.pure hSw).at 2 rfl; clear hSw; go_simp; (try with_reducible rfl))
  try simp only [Act.put, lsT, lsZ, lsS]
  refine takeY 6 10 rfl rfl (v := ?_) ?_ hHeld ?_
  rotate_left 1
  · (intro u hSw; (try dsimp only at hSw); clear hSw; go_simp; (try with_reducible rfl))
  try simp only [Act.put, lsT, lsZ, lsS]
  refine takeY 7 11 rfl rfl (v := ?_) ?_ hHeld ?_
  rotate_left 1
  · (intro u hSw; (try dsimp only at hSw); have q1 := (hA2.out.pure hSw).at 3 rfl; have q2 := (hA2.out.pure hSw).at 4 rfl; have q3 := (hA2.out.pure hSw).at 5 rfl; clear hSw; go_simp; (try with_reducible rfl))
  try simp only [Act.put, lsT, lsZ, lsS]
  refine takeY 8 12 rfl rfl (v := ?_) ?_ hHeld ?_
  rotate_left 1
  · (intro u hSw; (try dsimp only at hSw); clear hSw; go_simp; (try with_reducible rfl))
  try simp only [Act.put, lsT, lsZ, lsS]
  refine takeY 9 13 rfl rfl (v := ?_) ?_ hHeld ?_
  rotate_left 1
  · (intro u hSw; (try dsimp only at hSw); have q := (hA2.out.pure hSw).at 6 rfl; clear hSw; go_simp; (try with_reducible rfl))
  try simp only [Act.put, lsT, lsZ, lsS]
  refine wpAnyH_ready (rs := [10, 12]) (by kernel_rfl) (by simp) ?_
  refine (AllReadyH.cons rfl (fun K hK => ?_) (AllReadyH.cons rfl (fun K hK => ?_) AllReadyH.nil))
  · go_simp
    go_at_call 16
    refine (dcopyputs_any _ pa pc puts _ (hR2.out.pure hb).p hnn.out.2 (fun x hx => (hR2.out.pure hb).r x hx) hsph.out).mono ?_
    rintro e w3 ⟨pv, L, rfl, hmp, hln, hC⟩
    have hmph := Lib.hid hmp; have hlnh := Lib.hid hln
    clear hmp hln
    obtain ⟨oa, oc, rfl⟩ := own_lenB hC.o
    have C3 := hC.cpt
    have hb := hb.trans (hC.b.mono hb.size)
    clear hC
    refine hK.out _ _ hb (fun hHeld => ?_)
    clear hK K
    try simp only [Act.put, lsT, lsZ, lsS]
    refine takeY 11 15 rfl rfl (v := ?_) ?_ hHeld ?_
    rotate_left 1
    · (intro u hSw; (try dsimp only at hSw); clear hSw; go_simp; (try with_reducible rfl))
    try simp only [Act.put, lsT, lsZ, lsS]
    refine wpAnyH_ready (rs := [12]) (by kernel_rfl) (by simp) ?_
    refine (AllReadyH.cons rfl (fun K hK => ?_) AllReadyH.nil)
    go_simp
    have hxw := Lib.hid hb.size
    have hbA := Lib.hid hb
    have X4 := Blk.new w3 [.int .u8 0, .string ⟨#[]⟩, .int .u64 0, .int .u32 0, .string ⟨#[]⟩, .string ⟨#[]⟩, .slice none 0 0, .slice none 0 0] 29
    have C4 := C3.pure ((Below.refl w3.heap.size w3).alloc (Nat.le_refl _) (.cells #[.int .u8 0, .string ⟨#[]⟩, .int .u64 0, .int .u32 0, .string ⟨#[]⟩, .string ⟨#[]⟩, .slice none 0 0, .slice none 0 0] 29))
    have hb := hb.alloc hb.size (.cells #[.int .u8 0, .string ⟨#[]⟩, .int .u64 0, .int .u32 0, .string ⟨#[]⟩, .string ⟨#[]⟩, .slice none 0 0, .slice none 0 0] 29)
    refine hK.out _ _ hb (fun hHeld => ?_)
    clear hK K
    try simp only [Act.put, lsT, lsZ, lsS]
    refine wpAnyH_ready (rs := [13]) (by kernel_rfl) (by simp) ?_
    refine (AllReadyH.cons rfl (fun K hK => ?_) AllReadyH.nil)
    go_simp
    have X5 := Blk.new w3 [.int .u8 kind, .string name, .int .u64 n, .int .u32 xf, .string xg, .string xb, .slice oa L.length oc, .slice none 0 0] 29
    have C5 := C3.pure ((Below.refl w3.heap.size w3).alloc (Nat.le_refl _) (.cells #[.int .u8 kind, .string name, .int .u64 n, .int .u32 xf, .string xg, .string xb, .slice oa L.length oc, .slice none 0 0] 29))
    have hb := hbA.out.alloc hbA.out.size (.cells #[.int .u8 kind, .string name, .int .u64 n, .int .u32 xf, .string xg, .string xb, .slice oa L.length oc, .slice none 0 0] 29)
    refine hK.out _ _ hb (fun hHeld => ?_)
    clear hK K
    try simp only [Act.put, lsT, lsZ, lsS]
    refine wpAnyH_done (by kernel_rfl) ?_ _
    have A5 := hA2.out.pure hb; have Z5 := hZ2.out.pure hb; have S5 := (hR2.out.pure hb).s; have hb5 := hb
    have hxk := Lib.hid (show W.heap.size ≤ w3.heap.size by have := hxw.out; omega)
    have C5 := C5.weaken (Q := fun i => W.heap.size ≤ i ∧ i ≠ w3.heap.size) (fun k hk => by have h1 := hk.1; have h2 := hk.2; (try simp at h1); omega)
    clear C3 hb X4 C4 hxw hbA
    generalize World.alloc w3 (.cells #[.int .u8 kind, .string name, .int .u64 n, .int .u32 xf, .string xg, .string xb, .slice oa L.length oc, .slice none 0 0] 29) = w5 at *
    have a0 := A5.at 0 rfl; have a1 := A5.at 1 rfl; have a2 := A5.at 2 rfl; have a3 := A5.at 3 rfl; have a4 := A5.at 4 rfl; have a5 := A5.at 5 rfl; have a6 := A5.at 6 rfl; have a7 := A5.at 7 rfl
    have x0 := X5.at 0 rfl; have x1 := X5.at 1 rfl; have x2 := X5.at 2 rfl; have x3 := X5.at 3 rfl; have x4 := X5.at 4 rfl; have x5 := X5.at 5 rfl; have x6 := X5.at 6 rfl; have x7 := X5.at 7 rfl
    go_upto_region 3 with (at_builtin; refine wpList_app (base := w5.heap.size) rfl (.tmp 17) (.tmp 19) 27 47 rfl elem_ref rfEnc_len rfEnc_one _ ([] : List Rf) rfl Own.nil _ takes rfl S5 (by have := hnn.out.1; unfold maxLen; simp; omega) (by have := hnn.out.1; simp; omega) (Nat.le_refl _) ?_; intro kv w6 hO6 hgr6 hfr6 hsh6; rw [List.nil_append] at hO6; obtain ⟨ta6, tc6, rfl⟩ := own_lenB hO6; have hB6 := (Below.refl w5.heap.size w5).grown hgr6 (Nat.le_refl _) (fun j e => by cases e); have X6 := X5.pure hB6; have x7 := X6.at 7 rfl; have y7 := X6.frozen 7)
    have hu7 := Upd.set (S := fun k => k = w3.heap.size) (w := w6) (p := ⟨w3.heap.size, 7, none⟩) rfl (.slice ta6 takes.length tc6)
    have X7 : Blk _ w3.heap.size _ := X6.set 7 (.slice ta6 takes.length tc6)
    have C7 := (C5.pure hB6).upd hu7 (fun k hk e => hk.2 e)
    have hX5 := Lib.hid X5.lt
    have O7 := hO6.upd hu7 (fun i hi e => by have := hO6.ge hi; have := hX5.out; omega)
    have Z7 := (Z5.pure hB6).upd hu7 (fun e => by have := hxk.out; have := hz2.out; omega)
    have hb7 := (hb5.trans (hB6.mono hb5.size)).trans (hu7.below (Nat.le_trans hb5.size hB6.size) (fun k e => by have := hxk.out; omega))
    have hg6 := Lib.hid (show W.heap.size ≤ w5.heap.size from hb5.size)
    generalize World.setCell w6 _ _ = w7 at *
    clear a0 x0 a1 x1 a2 x2 a3 x3 a4 x4 a5 x5 a6 x6 a7 x7 y7 A5 X5 X6 C5 Z5 S5 hb5 hu7 hsh6 hfr6 hgr6 hO6
    have x0 := X7.at 0 rfl; have x1 := X7.at 1 rfl; have x2 := X7.at 2 rfl; have x3 := X7.at 3 rfl; have x4 := X7.at 4 rfl; have x5 := X7.at 5 rfl; have x6 := X7.at 6 rfl; have x7 := X7.at 7 rfl
    have z0 := Z7.at 0 rfl; have y0 := Z7.frozen 0; have z1 := Z7.at 1 rfl; have y1 := Z7.frozen 1; have z2 := Z7.at 2 rfl; have y2 := Z7.frozen 2; have z3 := Z7.at 3 rfl; have y3 := Z7.frozen 3; have z4 := Z7.at 4 rfl; have y4 := Z7.frozen 4; have z5 := Z7.at 5 rfl; have y5 := Z7.frozen 5; have z6 := Z7.at 6 rfl; have y6 := Z7.frozen 6; have z7 := Z7.at 7 rfl; have y7 := Z7.frozen 7
    go_wp2
    have hv := Upd.at8 w7 (w.heap.size + 1) (.int .u8 kind) (.string name) (.int .u64 n) (.int .u32 xf) (.string xg) (.string xb) (.slice oa L.length oc) (.slice ta6 takes.length tc6)
    have K9 := Z7.fresh8 (.int .u8 kind) (.string name) (.int .u64 n) (.int .u32 xf) (.string xg) (.string xb) (.slice oa L.length oc) (.slice ta6 takes.length tc6)
    have C9 := C7.upd hv (fun k hk e => by have := hk.1; have := hz2.out; omega)
    have O9 := O7.upd hv (fun i hi e => by have := O7.ge hi; have := hg6.out; have := hz2.out; omega)
    unfold set8 at hv K9 C9 O9
    have k0 := K9.at 0 rfl; have k1 := K9.at 1 rfl; have k2 := K9.at 2 rfl; have k3 := K9.at 3 rfl; have k4 := K9.at 4 rfl; have k5 := K9.at 5 rfl; have k6 := K9.at 6 rfl; have k7 := K9.at 7 rfl
    refine bodyPost_ret (by simp [results, Tryz.results7, go_sem, k0, k1, k2, k3, k4, k5, k6, k7]; rfl) rfl ?_
    have hln := hlnh.out
    have he : (EnT.mk kind name n (xf, xg, xb) (.slice oa L.length oc) (.slice ta6 takes.length tc6) L takes).e = (EnT.mk kind name n (xf, xg, xb) (.slice pa puts.length pc) (.slice ta takes.length tc) puts takes).e := by show En.mk kind name n (xf, xg, xb) (L.map PtT.p) takes = En.mk kind name n (xf, xg, xb) (puts.map PtT.p) takes; rw [hmph.out]
    refine ⟨EnT.mk kind name n (xf, xg, xb) (.slice oa L.length oc) (.slice ta6 takes.length tc6) L takes, rfl, he, ?_, ?_⟩
    · exact ⟨C9.p, fun k e n => by have := (C9.pP n k e).1; have := hz2.out; omega, fun x hx => (C9.r x hx).weaken (fun k _ hk => by have := hk.1; have := hz2.out; omega), O9.slc rfEnc_len, fun k e n => by have := O9.ge e; have := hg6.out; have := hz2.out; omega, by rw [he]; exact hwf.out⟩
    · exact (hB2h.out.trans (hb7.mono hB2h.out.size)).trans (hv.below (by have := hb7.size; have := hz2.out; omega) (fun k e => by omega))
  · go_simp
    have X1 := Blk.new W.drew [.int .u8 0, .string ⟨#[]⟩, .int .u64 0, .int .u32 0, .string ⟨#[]⟩, .string ⟨#[]⟩, .slice none 0 0, .slice none 0 0] 29
    have hb := hb.alloc hb.size (.cells #[.int .u8 0, .string ⟨#[]⟩, .int .u64 0, .int .u32 0, .string ⟨#[]⟩, .string ⟨#[]⟩, .slice none 0 0, .slice none 0 0] 29)
    refine hK.out _ _ hb (fun hHeld => ?_)
    clear hK K
    try simp only [Act.put, lsT, lsZ, lsS]
    refine wpAnyH_ready (rs := [10]) (by kernel_rfl) (by simp) ?_
    refine (AllReadyH.cons rfl (fun K hK => ?_) AllReadyH.nil)
    go_simp
    go_at_call 16
    refine (dcopyputs_any _ pa pc puts _ (hR2.out.pure hb).p hnn.out.2 (fun x hx => (hR2.out.pure hb).r x hx) hsph.out).mono ?_
    rintro e w3 ⟨pv, L, rfl, hmp, hln, hC⟩
    have hmph := Lib.hid hmp; have hlnh := Lib.hid hln
    clear hmp hln
    obtain ⟨oa, oc, rfl⟩ := own_lenB hC.o
    have C3 := hC.cpt
    have X3 : Blk w3 W.heap.size _ := X1.pure hC.b
    have x0 := X3.at 0 rfl; have y0 := X3.frozen 0; have x1 := X3.at 1 rfl; have y1 := X3.frozen 1; have x2 := X3.at 2 rfl; have y2 := X3.frozen 2; have x3 := X3.at 3 rfl; have y3 := X3.frozen 3; have x4 := X3.at 4 rfl; have y4 := X3.frozen 4; have x5 := X3.at 5 rfl; have y5 := X3.frozen 5; have x6 := X3.at 6 rfl; have y6 := X3.frozen 6; have x7 := X3.at 7 rfl; have y7 := X3.frozen 7
    have hb := hb.trans (hC.b.mono hb.size)
    clear hC
    refine hK.out _ _ hb (fun hHeld => ?_)
    clear hK K
    try simp only [Act.put, lsT, lsZ, lsS]
    refine takeY 11 15 rfl rfl (v := ?_) ?_ hHeld ?_
    rotate_left 1
    · (intro u hSw; (try dsimp only at hSw); clear hSw; go_simp; (try with_reducible rfl))
    try simp only [Act.put, lsT, lsZ, lsS]
    refine wpAnyH_ready (rs := [13]) (by kernel_rfl) (by simp) ?_
    refine (AllReadyH.cons rfl (fun K hK => ?_) AllReadyH.nil)
    go_simp
    have hx8 := Upd.at8 w3 W.heap.size (.int .u8 kind) (.string name) (.int .u64 n) (.int .u32 xf) (.string xg) (.string xb) (.slice oa L.length oc) (.slice none 0 0)
    have X5 := X3.fresh8 (.int .u8 kind) (.string name) (.int .u64 n) (.int .u32 xf) (.string xg) (.string xb) (.slice oa L.length oc) (.slice none 0 0)
    have C5 := C3.upd hx8 (fun k hk e => by have := hk.1; simp at this; omega)
    have hb := hb.trans (hx8.below hb.size (fun k e => by omega))
    unfold set8 at X5 C5 hb
    refine hK.out _ _ hb (fun hHeld => ?_)
    clear hK K
    try simp only [Act.put, lsT, lsZ, lsS]
    refine wpAnyH_done (by kernel_rfl) ?_ _
    have A5 := hA2.out.pure hb; have Z5 := hZ2.out.pure hb; have S5 := (hR2.out.pure hb).s; have hb5 := hb
    have hxk := Lib.hid (show W.heap.size ≤ W.heap.size by omega)
    have C5 := C5.weaken (Q := fun i => W.heap.size ≤ i ∧ i ≠ W.heap.size) (fun k hk => by have h1 := hk.1; have h2 := hk.2; (try simp at h1); omega)
    clear C3 hb X1 X3 hx8 x0 y0 x1 y1 x2 y2 x3 y3 x4 y4 x5 y5 x6 y6 x7 y7
    generalize World.setCell (World.setCell (World.setCell (World.setCell (World.setCell (World.setCell (World.setCell (World.setCell _ _ _) _ _) _ _) _ _) _ _) _ _) _ _) _ _ = w5 at *
    have a0 := A5.at 0 rfl; have a1 := A5.at 1 rfl; have a2 := A5.at 2 rfl; have a3 := A5.at 3 rfl; have a4 := A5.at 4 rfl; have a5 := A5.at 5 rfl; have a6 := A5.at 6 rfl; have a7 := A5.at 7 rfl
    have x0 := X5.at 0 rfl; have x1 := X5.at 1 rfl; have x2 := X5.at 2 rfl; have x3 := X5.at 3 rfl; have x4 := X5.at 4 rfl; have x5 := X5.at 5 rfl; have x6 := X5.at 6 rfl; have x7 := X5.at 7 rfl
    go_upto_region 3 with (at_builtin; refine wpList_app (base := w5.heap.size) rfl (.tmp 17) (.tmp 19) 27 47 rfl elem_ref rfEnc_len rfEnc_one _ ([] : List Rf) rfl Own.nil _ takes rfl S5 (by have := hnn.out.1; unfold maxLen; simp; omega) (by have := hnn.out.1; simp; omega) (Nat.le_refl _) ?_; intro kv w6 hO6 hgr6 hfr6 hsh6; rw [List.nil_append] at hO6; obtain ⟨ta6, tc6, rfl⟩ := own_lenB hO6; have hB6 := (Below.refl w5.heap.size w5).grown hgr6 (Nat.le_refl _) (fun j e => by cases e); have X6 := X5.pure hB6; have x7 := X6.at 7 rfl; have y7 := X6.frozen 7)
    have hu7 := Upd.set (S := fun k => k = W.heap.size) (w := w6) (p := ⟨W.heap.size, 7, none⟩) rfl (.slice ta6 takes.length tc6)
    have X7 : Blk _ W.heap.size _ := X6.set 7 (.slice ta6 takes.length tc6)
    have C7 := (C5.pure hB6).upd hu7 (fun k hk e => hk.2 e)
    have hX5 := Lib.hid X5.lt
    have O7 := hO6.upd hu7 (fun i hi e => by have := hO6.ge hi; have := hX5.out; omega)
    have Z7 := (Z5.pure hB6).upd hu7 (fun e => by have := hxk.out; have := hz2.out; omega)
    have hb7 := (hb5.trans (hB6.mono hb5.size)).trans (hu7.below (Nat.le_trans hb5.size hB6.size) (fun k e => by have := hxk.out; omega))
    have hg6 := Lib.hid (show W.heap.size ≤ w5.heap.size from hb5.size)
    generalize World.setCell w6 _ _ = w7 at *
    clear a0 x0 a1 x1 a2 x2 a3 x3 a4 x4 a5 x5 a6 x6 a7 x7 y7 A5 X5 X6 C5 Z5 S5 hb5 hu7 hsh6 hfr6 hgr6 hO6
    have x0 := X7.at 0 rfl; have x1 := X7.at 1 rfl; have x2 := X7.at 2 rfl; have x3 := X7.at 3 rfl; have x4 := X7.at 4 rfl; have x5 := X7.at 5 rfl; have x6 := X7.at 6 rfl; have x7 := X7.at 7 rfl
    have z0 := Z7.at 0 rfl; have y0 := Z7.frozen 0; have z1 := Z7.at 1 rfl; have y1 := Z7.frozen 1; have z2 := Z7.at 2 rfl; have y2 := Z7.frozen 2; have z3 := Z7.at 3 rfl; have y3 := Z7.frozen 3; have z4 := Z7.at 4 rfl; have y4 := Z7.frozen 4; have z5 := Z7.at 5 rfl; have y5 := Z7.frozen 5; have z6 := Z7.at 6 rfl; have y6 := Z7.frozen 6; have z7 := Z7.at 7 rfl; have y7 := Z7.frozen 7
    go_wp2
    have hv := Upd.at8 w7 (w.heap.size + 1) (.int .u8 kind) (.string name) (.int .u64 n) (.int .u32 xf) (.string xg) (.string xb) (.slice oa L.length oc) (.slice ta6 takes.length tc6)
    have K9 := Z7.fresh8 (.int .u8 kind) (.string name) (.int .u64 n) (.int .u32 xf) (.string xg) (.string xb) (.slice oa L.length oc) (.slice ta6 takes.length tc6)
    have C9 := C7.upd hv (fun k hk e => by have := hk.1; have := hz2.out; omega)
    have O9 := O7.upd hv (fun i hi e => by have := O7.ge hi; have := hg6.out; have := hz2.out; omega)
    unfold set8 at hv K9 C9 O9
    have k0 := K9.at 0 rfl; have k1 := K9.at 1 rfl; have k2 := K9.at 2 rfl; have k3 := K9.at 3 rfl; have k4 := K9.at 4 rfl; have k5 := K9.at 5 rfl; have k6 := K9.at 6 rfl; have k7 := K9.at 7 rfl
    refine bodyPost_ret (by simp [results, Tryz.results7, go_sem, k0, k1, k2, k3, k4, k5, k6, k7]; rfl) rfl ?_
    have hln := hlnh.out
    have he : (EnT.mk kind name n (xf, xg, xb) (.slice oa L.length oc) (.slice ta6 takes.length tc6) L takes).e = (EnT.mk kind name n (xf, xg, xb) (.slice pa puts.length pc) (.slice ta takes.length tc) puts takes).e := by show En.mk kind name n (xf, xg, xb) (L.map PtT.p) takes = En.mk kind name n (xf, xg, xb) (puts.map PtT.p) takes; rw [hmph.out]
    refine ⟨EnT.mk kind name n (xf, xg, xb) (.slice oa L.length oc) (.slice ta6 takes.length tc6) L takes, rfl, he, ?_, ?_⟩
    · exact ⟨C9.p, fun k e n => by have := (C9.pP n k e).1; have := hz2.out; omega, fun x hx => (C9.r x hx).weaken (fun k _ hk => by have := hk.1; have := hz2.out; omega), O9.slc rfEnc_len, fun k e n => by have := O9.ge e; have := hg6.out; have := hz2.out; omega, by rw [he]; exact hwf.out⟩
    · exact (hB2h.out.trans (hb7.mono hB2h.out.size)).trans (hv.below (by have := hb7.size; have := hz2.out; omega) (fun k e => by omega))
end Go.Proofs.YtflglpbjapgciaaGreatDoor
