/- Maps from names of messages to numbers. Conditions: none. (Texts joined.) -/
import Derived.Test.YtgnaifhmcllnlaaGreatDoorB06
import Derived.WideKeyEntry
set_option maxRecDepth 100000
set_option maxHeartbeats 25600000
set_option linter.unusedSimpArgs false
set_option linter.unusedVariables false
namespace Go.Proofs.YtgnaifhmcllnlaaGreatDoor
open Go.RowKit Tryz
theorem act {B vb : Nat} {w w1 w2 : World} (h : Below B w w1) (hU : Upd (acu vb) w1 w2) (hv : B ≤ vb) (hB : B ≤ w1.heap.size) : Below B w w2 :=
 h.trans (hU.below hB (fun k hk => by unfold acu at hk; omega))
theorem RdP.other {S : Nat → Prop} {w w' : World} {rb vb : Nat} (h : RdP w rb vb) (hu : Upd S w w') (hS : ¬ S rb) : RdP w' rb vb := ⟨h.1.upd hu hS, h.2⟩
theorem azu (n : Nat) (r : RS) : (tkR n r).1.length ≤ r.1.length := by unfold tkR; split <;> simp; omega
theorem bbv {P : Nat → Prop} {w : World} : Rd P w (VT.mk 0 0 ⟨#[]⟩ (.slice none 0 0) (.slice none 0 0) [] []) := Rd.leaf (by omega) (by omega) (by omega) (by omega)
theorem azv {L : List UInt8} {d r : Bool} {k : ByteArray} {rK : RS} (h : pgA (L, false) = ((d, r, k), rK)) (h0 : ¬ 0 < rK.1.length) : pgP L = (⟨k, d, r, ⟨#[]⟩, V.zero⟩, rK) := by
 unfold pgP; rw [h]; exact qk h0
theorem aub {L : List UInt8} {d r : Bool} {k m : ByteArray} {v : V} {rK rE : RS} (h : pgA (L, false) = ((d, r, k), rK)) (h0 : 0 < rK.1.length) (h1 : pgB rK = ((m, v), rE)) : pgP L = (⟨k, d, r, m, v⟩, rE) := by
 unfold pgP; rw [h]; refine (qw h0).trans ?_; rw [h1]
theorem bbw {L : List UInt8} {q : Pr} {rE : RS} (h : pgP L = (q, rE)) (h0 : rE.2 = false) (h1 : q.chk = 0) (h2 : q.bytes = L) : pgO L = some q := by
 rw [bbj, h]; exact qw ⟨h0, h1, h2⟩
theorem bbx {L : List UInt8} {q : Pr} {rE : RS} (h : pgP L = (q, rE)) (h0 : ¬ (rE.2 = false ∧ q.chk = 0 ∧ q.bytes = L)) : pgO L = none := by
 rw [bbj, h]; exact qk h0
def hp1 : Pr := ⟨⟨#[113]⟩, true, false, ⟨#[]⟩, V.zero⟩
def hp2 : Pr := ⟨⟨#[]⟩, false, true, ⟨#[]⟩, V.zero⟩
def aw1 (w : World) (B : Nat) (v0 v1 v2 v3 v4 v5 v6 v7 v8 : Value) : World := ((((((((w.setCell ⟨B, 2, none⟩ v0).setCell ⟨B, 3, none⟩ v1).setCell ⟨B, 4, none⟩ v2).setCell ⟨B, 5, none⟩ v3).setCell ⟨B, 6, none⟩ v4).setCell ⟨B, 7, none⟩ v5).setCell ⟨B, 8, none⟩ v6).setCell ⟨B, 9, none⟩ v7).setCell ⟨B, 10, none⟩ v8
theorem Upd.atPr (w : World) (B : Nat) (v0 v1 v2 v3 v4 v5 v6 v7 v8 : Value) : Upd (fun k => k = B) w (aw1 w B v0 v1 v2 v3 v4 v5 v6 v7 v8) := aas _ B _ _ (aas _ B _ _ (aas _ B _ _ (aas _ B _ _ (aas _ B _ _ (aas _ B _ _ (aas _ B _ _ (aas _ B _ _ (aas _ B _ _ (Upd.refl _ w) rfl) rfl) rfl) rfl) rfl) rfl) rfl) rfl) rfl
theorem Blk.atPr {w : World} {B : Nat} {c0 c1 c2 c3 c4 c5 c6 c7 c8 c9 c10 c11 : Value} (h : Blk w B [c0, c1, c2, c3, c4, c5, c6, c7, c8, c9, c10, c11]) (v0 v1 v2 v3 v4 v5 v6 v7 v8 : Value) : Blk (aw1 w B v0 v1 v2 v3 v4 v5 v6 v7 v8) B [c0, c1, v0, v1, v2, v3, v4, v5, v6, v7, v8, c11] := ((((((((h.set 2 v0).set 3 v1).set 4 v2).set 5 v3).set 6 v4).set 7 v5).set 8 v6).set 9 v7).set 10 v8
structure RdE (w : World) (tb rb vb : Nat) (r : RS) : Prop where
 b : Blk w tb [.pointer (some ⟨rb, 0, none⟩)]
 p : RdP w rb vb
 s : RdS w vb r.1 r.2
 v : vb < tb
 q : rb < tb
 l : Big r.1.length
theorem RdE.pure {w w' : World} {tb rb vb : Nat} {r : RS} (h : RdE w tb rb vb r) (hB : Below w.heap.size w w') : RdE w' tb rb vb r := ⟨h.b.pure hB, h.p.pure hB, h.s.pure hB, h.v, h.q, h.l⟩
theorem RdE.next {w w' : World} {tb rb vb : Nat} {r r' : RS} (h : RdE w tb rb vb r) (hu : Upd (acu vb) w w') (hs : RdS w' vb r'.1 r'.2) (hl : r'.1.length ≤ r.1.length) : RdE w' tb rb vb r' :=
 ⟨h.b.upd hu (fun e => by have h1 := h.v; unfold acu at e; omega), h.p.upd hu, hs, h.v, h.q, h.l.mono hl⟩
theorem RdE.other {S : Nat → Prop} {w w' : World} {tb rb vb : Nat} {r : RS} (h : RdE w tb rb vb r) (hu : Upd S w w') (hS : ∀ k, S k → tb < k) : RdE w' tb rb vb r :=
 ⟨h.b.upd hu (fun e => by have h1 := hS _ e; omega), h.p.other hu (fun e => by have h1 := hS _ e; have h2 := h.q; omega), h.s.above hu (fun k e => by have h1 := hS _ e; have h2 := h.v; omega), h.v, h.q, h.l⟩
theorem auc : (prog.info? 64).map (fun i => (i.zero, i.size, i.bytes)) = some (some (.agg #[.string ⟨#[]⟩, .int .u64 0, .string ⟨#[]⟩, .bool false, .bool false, .string ⟨#[]⟩, .int .u8 0, .int .u64 0, .string ⟨#[]⟩, .slice none 0 0, .slice none 0 0, .string ⟨#[]⟩]), 12, 160) := by kernel_rfl
theorem aw2 : ElemT prog 31 64 12 160 := ElemT.mk' underlying31 auc rfl (by omega)
theorem aud : (prog.info? 68).map (fun i => (i.zero, i.size, i.bytes)) = some (some (.agg #[.string ⟨#[]⟩, .int .u64 0]), 2, 24) := by kernel_rfl
theorem aqi : ElemT prog 32 68 2 24 := ElemT.mk' underlying32 aud rfl (by omega)
structure GSt (w0 : World) (tb sb rb vb : Nat) (s : ByteArray) (w : World) (lv : Value) (L : List PtT) (rr : RS) : Prop where
 e : RdE w tb rb vb rr
 b : Blk w sb [.string s]
 o : Own w0.heap.size 64 12 aat w lv L
 rd : ∀ x ∈ L, Rd (fun i => w0.heap.size ≤ i ∧ lv.ownBlock ≠ some i) w x.pr.app
 up : Upd (acu vb) w0 w
 tl : tb < w0.heap.size
 sl : sb < vb
theorem GSt.call {w0 w w' : World} {tb sb rb vb : Nat} {s : ByteArray} {lv : Value} {L : List PtT} {rr r' : RS} (h : GSt w0 tb sb rb vb s w lv L rr) (E : RdE w' tb rb vb r') (hu : Upd (acu vb) w w') : GSt w0 tb sb rb vb s w' lv L r' :=
 ⟨E, h.b.upd hu (fun e => by have := h.sl; unfold acu at e; omega), h.o.upd hu (fun i hi e => by have h1 := h.o.ge hi; have h2 := h.e.v; have h3 := h.tl; unfold acu at e; omega),
  fun x hx => (h.rd x hx).upd hu (fun i hi e => by have h1 := hi.1; have h2 := h.e.v; have h3 := h.tl; unfold acu at e; omega), h.up.only2 hu, h.tl, h.sl⟩
theorem GSt.app {w0 w w' : World} {tb sb rb vb : Nat} {s : ByteArray} {lv : Value} {L : List PtT} {rr : RS} {g cap : Nat} {t : PtT} (h : GSt w0 tb sb rb vb s w lv L rr) (hO : Own w0.heap.size 64 12 aat w' (.slice (some ⟨g, 0, none⟩) (L.length + 1) cap) (L ++ [t])) (hg : w.grownBy w' lv.ownBlock) (hf : lv.ownBlock = some g ∨ g = w.heap.size)
 (ht : Rd (fun i => w0.heap.size ≤ i ∧ lv.ownBlock ≠ some i) w t.pr.app) : GSt w0 tb sb rb vb s w' (.slice (some ⟨g, 0, none⟩) (L.length + 1) cap) (L ++ [t]) rr := by
 have hu : Upd (fun i => lv.ownBlock = some i) w w' := Upd.grown hg (fun i e => e)
 have h3 := h.tl; have h2 := h.e.v; have h4 := h.sl
 have hrd : ∀ x : VT, Rd (fun i => w0.heap.size ≤ i ∧ lv.ownBlock ≠ some i) w x → Rd (fun i => w0.heap.size ≤ i ∧ (Value.slice (some ⟨g, 0, none⟩) (L.length + 1) cap).ownBlock ≠ some i) w' x := fun x hx =>
  (hx.weaken (Q := fun i => (w0.heap.size ≤ i ∧ (Value.slice (some ⟨g, 0, none⟩) (L.length + 1) cap).ownBlock ≠ some i) ∧ lv.ownBlock ≠ some i) (fun i hi hm => ⟨⟨hm.1, fun e => by
   have e : some g = some i := e; rcases hf with hf | hf
   ·exact hm.2 (hf.trans e)
   ·injection e with e; omega⟩, hm.2⟩)).upd hu (fun i hi e => hi.2 e) |>.weaken (fun i _ hm => hm.1)
 refine ⟨h.e.other hu (fun k e => by have h1 := h.o.ge e; omega), h.b.upd hu (fun e => by have h1 := h.o.ge e; omega), hO, fun x hx => ?_, h.up.trans hu (fun i e hi => by have h1 := h.o.ge e; omega), h.tl, h.sl⟩
 rcases List.mem_append.1 hx with hx | hx
 ·exact hrd _ (h.rd x hx)
 ·rw [jc.1 hx]; exact hrd _ ht
theorem GSt.pure {w0 w w' : World} {tb sb rb vb : Nat} {s : ByteArray} {lv : Value} {L : List PtT} {rr : RS} (h : GSt w0 tb sb rb vb s w lv L rr) (hB : Below w.heap.size w w') : GSt w0 tb sb rb vb s w' lv L rr := h.call (h.e.pure hB) (Upd.of_below hB)
structure HSt (w0 : World) (tb rb vb : Nat) (w : World) (lv : Value) (L : List Rf) (rr : RS) : Prop where
 e : RdE w tb rb vb rr
 o : Own w0.heap.size 68 2 abc w lv L
 up : Upd (acu vb) w0 w
 tl : tb < w0.heap.size
theorem HSt.call {w0 w w' : World} {tb rb vb : Nat} {lv : Value} {L : List Rf} {rr r' : RS} (h : HSt w0 tb rb vb w lv L rr) (E : RdE w' tb rb vb r') (hu : Upd (acu vb) w w') : HSt w0 tb rb vb w' lv L r' :=
 ⟨E, h.o.upd hu (fun i hi e => by have h1 := h.o.ge hi; have h2 := h.e.v; have h3 := h.tl; unfold acu at e; omega), h.up.only2 hu, h.tl⟩
theorem HSt.app {w0 w w' : World} {tb rb vb : Nat} {lv : Value} {L : List Rf} {rr : RS} {g cap : Nat} {t : Rf} (h : HSt w0 tb rb vb w lv L rr) (hO : Own w0.heap.size 68 2 abc w' (.slice (some ⟨g, 0, none⟩) (L.length + 1) cap) (L ++ [t])) (hg : w.grownBy w' lv.ownBlock) (hf : lv.ownBlock = some g ∨ g = w.heap.size) : HSt w0 tb rb vb w' (.slice (some ⟨g, 0, none⟩) (L.length + 1) cap) (L ++ [t]) rr := by
 have hu : Upd (fun i => lv.ownBlock = some i) w w' := Upd.grown hg (fun i e => e)
 have h3 := h.tl; have h2 := h.e.v
 exact ⟨h.e.other hu (fun k e => by have h1 := h.o.ge e; omega), hO, h.up.trans hu (fun i e hi => by have h1 := h.o.ge e; omega), h.tl⟩
theorem HSt.pure {w0 w w' : World} {tb rb vb : Nat} {lv : Value} {L : List Rf} {rr : RS} (h : HSt w0 tb rb vb w lv L rr) (hB : Below w.heap.size w w') : HSt w0 tb rb vb w' lv L rr := h.call (h.e.pure hB) (Upd.of_below hB)
def bck (w : World) (B : Nat) (v0 v1 v2 v3 v4 v5 v6 v7 : Value) : World := (((((((w.setCell ⟨B, 0, none⟩ v0).setCell ⟨B, 1, none⟩ v1).setCell ⟨B, 2, none⟩ v2).setCell ⟨B, 3, none⟩ v3).setCell ⟨B, 4, none⟩ v4).setCell ⟨B, 5, none⟩ v5).setCell ⟨B, 6, none⟩ v6).setCell ⟨B, 7, none⟩ v7
theorem Upd.at8 (w : World) (B : Nat) (v0 v1 v2 v3 v4 v5 v6 v7 : Value) : Upd (fun k => k = B) w (bck w B v0 v1 v2 v3 v4 v5 v6 v7) := aas _ B _ _ (aas _ B _ _ (aas _ B _ _ (aas _ B _ _ (aas _ B _ _ (aas _ B _ _ (aas _ B _ _ (aas _ B _ _ (Upd.refl _ w) rfl) rfl) rfl) rfl) rfl) rfl) rfl) rfl
theorem Blk.fresh8 {w : World} {B : Nat} {c0 c1 c2 c3 c4 c5 c6 c7 : Value} (h : Blk w B [c0, c1, c2, c3, c4, c5, c6, c7]) (v0 v1 v2 v3 v4 v5 v6 v7 : Value) : Blk (bck w B v0 v1 v2 v3 v4 v5 v6 v7) B [v0, v1, v2, v3, v4, v5, v6, v7] := (((((((h.set 0 v0).set 1 v1).set 2 v2).set 3 v3).set 4 v4).set 5 v5).set 6 v6).set 7 v7
structure GP (w0 w : World) (tb pb rb vb : Nat) (s : ByteArray) (r : RS) (cs : List Value) : Prop where
 E : RdE w tb rb vb r
 S : Blk w w0.heap.size [.string s]
 Z : Blk w (w0.heap.size + 1) [.int .u8 0, .string ⟨#[]⟩, .int .u64 0, .int .u32 0, .string ⟨#[]⟩, .string ⟨#[]⟩, .slice none 0 0, .slice none 0 0]
 P : Blk w pb cs
 T : Below w0.heap.size w0 w
 o1 : w0.heap.size + 1 < vb
 o2 : tb < pb
section
variable {w0 w w' : World} {tb pb rb vb : Nat} {s : ByteArray} {r r' : RS} {cs : List Value}
theorem GP.callE (h : GP w0 w tb pb rb vb s r cs) (hE : RdE w' tb rb vb r') (hu : Upd (acu vb) w w') : GP w0 w' tb pb rb vb s r' cs :=
 ⟨hE, h.S.upd hu (fun e => by have h1 := h.o1; unfold acu at e; omega), h.Z.upd hu (fun e => by have h1 := h.o1; unfold acu at e; omega), h.P.upd hu (fun e => by have h1 := h.o2; have h2 := h.E.v; unfold acu at e; omega), act h.T hu (by have h1 := h.o1; omega) h.T.size, h.o1, h.o2⟩
theorem GP.call (h : GP w0 w tb pb rb vb s r cs) (hs : RdS w' vb r'.1 r'.2) (hu : Upd (acu vb) w w') (hl : r'.1.length ≤ r.1.length) : GP w0 w' tb pb rb vb s r' cs := h.callE (h.E.next hu hs hl) hu
theorem GP.pure (h : GP w0 w tb pb rb vb s r cs) (hB : Below w.heap.size w w') : GP w0 w' tb pb rb vb s r cs :=
 ⟨h.E.pure hB, h.S.pure hB, h.Z.pure hB, h.P.pure hB, h.T.trans (hB.mono h.T.size), h.o1, h.o2⟩
theorem GP.set (h : GP w0 w tb pb rb vb s r cs) (j : Nat) (v : Value) : GP w0 (w.setCell ⟨pb, j, none⟩ v) tb pb rb vb s r (cs.set j v) := by
 have hu := Upd.set (S := fun k => k = pb) (w := w) (p := ⟨pb, j, none⟩) rfl v
 have h1 := h.o1; have h2 := h.o2; have h3 := h.E.v
 exact ⟨h.E.other hu (fun k e => by omega), h.S.upd hu (fun e => by omega), h.Z.upd hu (fun e => by omega), h.P.set j v, h.T.trans (hu.below h.T.size (fun i e => by omega)), h1, h2⟩
end
theorem aw3 (w : World) (v : Value) (L : List UInt8) (h : Slc aax 1 w v L) (hL : Big L.length) (hT : Tb w) (hx : (ako L).isSome = true) : Calls prog 172 #[v] w fun e w' => ∃ (tk tn : Int) (ts : ByteArray) (ka : Option Addr) (kc : Nat) (la : Option Addr) (lc : Nat) (tks : List ByteArray) (tl : List VT),
 e = .returned (.tuple #[.agg #[.int .u8 tk, .int .u64 tn, .string ts, .slice ka tks.length kc, .slice la tl.length lc], .int .i64 (bdv (ako L)), .int .i64 (bdw (ako L))]) ∧ (VT.mk tk tn ts (.slice ka tks.length kc) (.slice la tl.length lc) tks tl).v = ax6 (ako L) ∧
 Rd (fun i => w.heap.size ≤ i) w' (VT.mk tk tn ts (.slice ka tks.length kc) (.slice la tl.length lc) tks tl) ∧ Below w.heap.size w w' := by
 rcases hr : rdP 6 200 L with _ | ⟨x, left, r⟩
 ·unfold ako at hx; rw [hr] at hx; simp at hx
 ·by_cases hc : x.chk = 0
  ·have hg : ako L = some (x, L.length - r.length) := by unfold ako; rw [hr, Option.bind_some]; dsimp only; rw [qw hc]
   rw [hg]; exact (awu w v L h hL hT x left r hr hc).mono fun e w' h => aov h
  ·unfold ako at hx; rw [hr, Option.bind_some] at hx; dsimp only at hx; rw [qk hc] at hx; simp at hx
def aw4 (b : List UInt8) : Prop :=
 let x := pgA (b, false)
 let f := nmR 2 (tkR 6 x.2).2
 let k := aoj (f.1 % 2 == 1) f.2
 0 < x.2.1.length → f.1 / 2 % 2 = 1 → (ako (tkR k.2.1.length k.2).1).isSome = true
theorem aue (p : Pr) (hw : p.app.Wf) (h : p.chk = 0) : aw4 p.bytes := by
 unfold aw4 Pr.bytes
 rw [asl p (akr.1 h).1]
 dsimp only
 by_cases hz : fl2 p = 0
 ·rw [qw hz]
  intro h0; simp at h0
 ·rw [qk hz]
  intro _; obtain ⟨a1, a2, a3, a4, e, -⟩ := ae2 (stx p.id ++ (if p.app.kind = 168 then p.app.bytes else [])) 4 3 0 (UInt8.ofNat (fl2 p)) []; have h8 := asj p; unfold ahf; rw [List.append_assoc, ← List.append_nil (part _), e, List.append_nil, asi 6 [a1, a2, a3, a4, 4, 3] _ rfl, ← amw (show fl2 p < 256 by omega), amv 2 _ (by omega)]; dsimp only; rw [agx p.id (akr.1 h).2.1 _ _ (ays p)]; dsimp only; intro hk; have hk := (ask p).1 hk; rw [qw hk]; have e2 := aoi p.app.bytes []; rw [List.append_nil] at e2; rw [e2]; have e3 := apz hw (asn h hk) []; rw [List.append_nil] at e3; rw [e3]; rfl
def bdy (b : List UInt8) : Prop := aw4 b ∧ pgO b ≠ none
theorem aw5 (p : Pr) (hw : p.app.Wf) (h : p.chk = 0) : bdy p.bytes := ⟨aue p hw h, by rw [amz hw h (aoy p.bytes)]; simp⟩
theorem auf (w : World) (s : ByteArray) (hs : s.size ≤ 2000000) (hT : Tb w) (hap : bdy s.data.toList) : Calls prog 135 #[.string s] w (bd2 w (pgO s.data.toList)) := by
 obtain ⟨L, hLe⟩ := zz s.data.toList
 have hLl : L.length = s.size := by rw [← hLe]; exact acj s
 have hLB : Big L.length := by unfold Big; omega
 have hB1 := (qz w.heap.size w).alloc (qj _) (.cells #[.string ⟨#[]⟩, .bool false, .bool false, .string ⟨#[]⟩, .int .u8 0, .int .u64 0, .string ⟨#[]⟩, .slice none 0 0, .slice none 0 0] 58)
 have Z1 := Blk.new w [.string ⟨#[]⟩, .bool false, .bool false, .string ⟨#[]⟩, .int .u8 0, .int .u64 0, .string ⟨#[]⟩, .slice none 0 0, .slice none 0 0] 58
 obtain ⟨cc, W2, hcv, hS2, hC2⟩ := aq4 (w.alloc (.cells #[.string ⟨#[]⟩, .bool false, .bool false, .string ⟨#[]⟩, .int .u8 0, .int .u64 0, .string ⟨#[]⟩, .slice none 0 0, .slice none 0 0] 58)) s (by omega)
 rw [hLe] at hS2 hap ⊢
 rw [show (w.alloc (.cells #[.string ⟨#[]⟩, .bool false, .bool false, .string ⟨#[]⟩, .int .u8 0, .int .u64 0, .string ⟨#[]⟩, .slice none 0 0, .slice none 0 0] 58)).heap.size = w.heap.size + 1 by simp] at hS2 hcv
 have Z2 := Z1.pure hC2
 have hT2 := hB1.trans (hC2.mono hB1.size)
 have hLeh := qq hLe
 obtain ⟨r1, hr1⟩ := zz ((tkR 6 (L, false)).2)
 have hL1 : Big r1.1.length := hLB.mono (by rw [← hr1]; exact aya 6 (L, false))
 obtain ⟨⟨f, rF⟩, hF⟩ := zz (nmR 2 r1)
 have hLF : Big rF.1.length := hL1.mono (by have := ayb 2 r1; rw [hF] at this; exact this)
 have hf := ayc 2 r1
 rw [hF] at hf
 have hf : f < 65536 := hf
 obtain ⟨db, hdb⟩ := zz (f % 2 == 1)
 obtain ⟨eb, heb⟩ := zz (f / 2 % 2 == 1)
 obtain ⟨kb, hkb⟩ := zz (f / 4 % 2 == 1)
 have a1 := bbk hf; have a2 := bbl hf; have a4 := bcz hf
 rw [hdb] at a1; rw [heb] at a2; rw [hkb] at a4
 obtain ⟨⟨key, rK⟩, hK⟩ := zz (aoj kb rF)
 have hLK : Big rK.1.length := hLF.mono (by have := asx kb rF; rw [hK] at this; exact this)
 have hpA := qq (show pgA (L, false) = ((db, eb, key), rK) by unfold pgA; simp only [hr1, hF, hdb, heb, hkb, hK])
 have hap1 := qq (show _ from by have h1 := hap.1; unfold aw4 at h1; rw [hpA.out] at h1; exact h1)
 have hso := qq hap.2
 clear hap
 have hr1h := qq hr1; have hFh := qq hF; have hKh := qq hK
 have hLBh := qq hLB; have hL1h := qq hL1; have hLFh := qq hLF; have hLKh := qq hLK
 have zi := ajd
 clear hr1 hF hK hLB hL1 hLF hLK hLe hLl hs hf hdb heb hkb
 go_enter func135, ntmps135
 go_upto_region 5 with (first | (go_at_call 167; refine (am2 _ _ L hS2 hLBh.out).mono ?_; rintro e w3 ⟨rb, vb, rfl, hp3, hs3, hvb3, hrb3, hB3⟩; have Z3 := Z2.pure hB3; have hT3 := hT2.trans (hB3.mono hT2.size); have hvb := qq (show w.heap.size < vb by have h1 := hC2.size; simp at h1; omega); have hvt := qq (show vb < w3.heap.size from hs3.lt); have hA4 := ((qz w3.heap.size w3).alloc (qj _) (.cells #[.pointer (some ⟨rb, 0, none⟩)] 199)); have Z4 := Z3.pure hA4; have hp4 := hp3.pure hA4; have hs4 := hs3.pure hA4; have hT4 := hT3.trans ((hA4).mono hT3.size); have T4 := Blk.new w3 [.pointer (some ⟨rb, 0, none⟩)] 199; have t0 := T4.at 0 rfl) | (go_at_call 168; refine (al7 _ rb vb (L, false) 6 hp4 hs4 hLBh.out).mono ?_; rintro e w5 ⟨v5, rfl, -, -, hs5, hu5⟩; rw [hr1h.out] at hs5; have Z5 := Z4.upd hu5 (fun e => by have h1 := hvb.out; have h2 : w.heap.size = vb := e; omega); have T5 := T4.upd hu5 (fun e => by have h1 := hvt.out; have h2 : w3.heap.size = vb := e; omega); have hp5 := hp4.upd hu5; have hT5 := act hT4 hu5 (by have h1 := hvb.out; omega) hT4.size; have t1 := T5.at 0 rfl) | (go_at_call 169; refine (asy _ rb vb r1 2 hp5 hs5 (by unfold Wd; omega) hL1h.out).mono ?_; rintro e w6 ⟨he, hs6, hu6⟩; simp only [hFh.out] at he hs6; subst he; have Z6 := Z5.upd hu6 (fun e => by have h1 := hvb.out; have h2 : w.heap.size = vb := e; omega); have T6 := T5.upd hu6 (fun e => by have h1 := hvt.out; have h2 : w3.heap.size = vb := e; omega); have hp6 := hp5.upd hu6; have hT6 := act hT5 hu6 (by have h1 := hvb.out; omega) hT5.size; have t2 := T6.at 0 rfl) | (go_at_call 170; refine (ajk _ rb vb rF kb hp6 hs6 hLFh.out).mono ?_; rintro e w7 ⟨he, hs7, hu7⟩; simp only [hKh.out] at he hs7; subst he; have Z7 := Z6.upd hu7 (fun e => by have h1 := hvb.out; have h2 : w.heap.size = vb := e; omega); have T7 := T6.upd hu7 (fun e => by have h1 := hvt.out; have h2 : w3.heap.size = vb := e; omega); have hp7 := hp6.upd hu7; have hT7 := act hT6 hu7 (by have h1 := hvb.out; omega) hT6.size; have hA8 := ((qz w7.heap.size w7).alloc (qj _) (.cells #[.string key, .bool db, .bool eb, .string ⟨#[]⟩, .int .u8 0, .int .u64 0, .string ⟨#[]⟩, .slice none 0 0, .slice none 0 0] 58)); have Z8 := Z7.pure hA8; have hp8 := hp7.pure hA8; have hs8 := hs7.pure hA8; have hT8 := hT7.trans ((hA8).mono hT7.size); have T8 := T7.pure hA8; have P8 := Blk.new w7 [.string key, .bool db, .bool eb, .string ⟨#[]⟩, .int .u8 0, .int .u64 0, .string ⟨#[]⟩, .slice none 0 0, .slice none 0 0] 58; have hvp := qq (show vb < w7.heap.size from hs7.lt); have htp := qq (show w3.heap.size < w7.heap.size from T7.lt); have t3 := T8.at 0 rfl))
 clear t0 t1 t2 t3 a1 a2 a4 hcv hu5 hu6 hu7 hs3 hs4 hs5 hs6 hs7 hA4 hA8
 have hrt := qq (show rb < w3.heap.size from hp3.1.lt)
 generalize World.alloc w7 (.cells #[.string key, .bool db, .bool eb, .string ⟨#[]⟩, .int .u8 0, .int .u64 0, .string ⟨#[]⟩, .slice none 0 0, .slice none 0 0] 58) = W8 at *
 have t3 := T8.at 0 rfl
 clear Z3 Z4 Z5 Z6 Z7 hp3 hp4 hp5 hp6 hp7 T4 T5 T6 T7 hT3 hT4 hT5 hT6 hT7 hB3 hT2 hC2 Z1 Z2 hB1 hS2
 go_upto_if 35 with (go_at_call 171; (with_reducible refine (aeh _ rb vb rK.1 rK.2 hp8 hs8).mono ?_); rintro e _ ⟨rfl, rfl⟩)
 clear t3
 go_cut [7] from 35 to 62 (fun s7 wx => ∃ (mid : ByteArray) (tk tn : Int) (ts : ByteArray) (ka : Option Addr) (kc : Nat) (la : Option Addr) (lc : Nat) (tks : List ByteArray) (tl : List VT) (rz : RS), Blk wx w.heap.size [.string ⟨#[]⟩, .bool false, .bool false, .string ⟨#[]⟩, .int .u8 0, .int .u64 0, .string ⟨#[]⟩, .slice none 0 0, .slice none 0 0] ∧ Blk wx w3.heap.size [.pointer (some ⟨rb, 0, none⟩)] ∧ Blk wx w7.heap.size [.string key, .bool db, .bool eb, .string mid, .int .u8 tk, .int .u64 tn, .string ts, .slice ka tks.length kc, .slice la tl.length lc] ∧ RdP wx rb vb ∧ RdS wx vb rz.1 rz.2 ∧ Below w.heap.size w wx ∧ Rd (fun i => w.heap.size < i) wx (VT.mk tk tn ts (.slice ka tks.length kc) (.slice la tl.length lc) tks tl) ∧ Hid (pgP L = (⟨key, db, eb, mid, (VT.mk tk tn ts (.slice ka tks.length kc) (.slice la tl.length lc) tks tl).v⟩, rz)))
 case rest =>
  clear Z8 T8 P8 hp8 hs8 hT8; obtain ⟨mid, tk, tn, ts, ka, kc, la, lc, tks, tl, rz, Z40, T40, P40, hp40, hs40, hT40, R40, hpg⟩ := hcut; obtain ⟨q, hq⟩ := zz ((PT.mk key db eb mid (VT.mk tk tn ts (.slice ka tks.length kc) (.slice la tl.length lc) tks tl)).p); have hpq := qq (show pgP L = (q, rz) by rw [← hq]; exact hpg.out); have hput := ajj (PT.mk key db eb mid (VT.mk tk tn ts (.slice ka tks.length kc) (.slice la tl.length lc) tks tl)) (fun i => w.heap.size < i) wc R40 (hT.pure hT40); obtain ⟨cx, hcx⟩ := zz q.chk; obtain ⟨tx, htx⟩ := zz (if cx = 0 then q.text else (⟨#[]⟩ : ByteArray)); rw [hq, hcx, htx, PT.arg_mk] at hput; have hputh := qq hput; have hqh := qq hq; have hcxh := qq hcx; have htxh := qq htx; clear hput hq hcx htx; obtain ⟨rE1, bad⟩ := rz; obtain ⟨p0, p1, p2, p3, p4, p5, p6, p7, p8⟩ := P40.a9; have hok : bad = false ∧ cx = 0 ∧ tx = s := Classical.byContradiction (fun hok => hso.out (bbx hpq.out (fun e => hok ⟨e.1, hcxh.out.symm.trans e.2.1, by have h1 := htxh.out; rw [qw (hcxh.out.symm.trans e.2.1)] at h1; rw [← h1]; exact ati.2 (e.2.2.trans hLeh.out.symm)⟩))); obtain ⟨rfl, rfl, rfl⟩ := hok; have hgo : pgO L = some q := bbw hpq.out rfl hcxh.out (by have h1 := htxh.out; rw [qw rfl] at h1; exact (ati.1 h1).trans hLeh.out); have hgoh := qq hgo; clear hgo; go_wp2_with (first | (go_at_call 134; refine (hputh.out).mono ?_; rintro e w20 ⟨rfl, hB20⟩; have Z20 := Z40.pure hB20; have T20 := T40.pure hB20; have P20 := P40.pure hB20; have hp20 := hp40.pure hB20; have hs20 := hs40.pure hB20; have hT20 := hT40.trans (hB20.mono hT40.size); clear p0 p1 p2 p3 p4 p5 p6 p7 p8; obtain ⟨p0, p1, p2, p3, p4, p5, p6, p7, p8⟩ := P20.a9; obtain ⟨z0, z1, z2, z3, z4, z5, z6, z7, z8⟩ := Z20.a9; obtain ⟨y0, y1, y2, y3, y4, y5, y6, y7, y8⟩ := Z20.f9; have tt := T20.at 0 rfl; have R20 := (R40).pure hB20) | (go_at_call 173; (with_reducible refine (aei _ rb vb rE1 _ hp20 hs20).mono ?_); rintro e _ ⟨rfl, rfl⟩)); have hgo := hgoh.out; have hv := Upd.at9 w20 w.heap.size (.string key) (.bool db) (.bool eb) (.string mid) (.int .u8 tk) (.int .u64 tn) (.string ts) (.slice ka tks.length kc) (.slice la tl.length lc); have K9 := Z20.fresh9 (.string key) (.bool db) (.bool eb) (.string mid) (.int .u8 tk) (.int .u64 tn) (.string ts) (.slice ka tks.length kc) (.slice la tl.length lc); have R9 := R20.upd hv (fun b hb e => by omega); unfold bcj at hv K9 R9; obtain ⟨k0, k1, k2, k3, k4, k5, k6, k7, k8⟩ := K9.a9; refine bodyPost_ret (by simp [results, Tryz.results135, go_sem, k0, k1, k2, k3, k4, k5, k6, k7, k8]; rfl) rfl ?_; have hTz := hT20.trans (hv.below hT20.size (fun i e => by omega)); exact ⟨PT.mk key db eb mid (VT.mk tk tn ts (.slice ka tks.length kc) (.slice la tl.length lc) tks tl), by rw [hgo]; rfl, by rw [hgo]; exact hqh.out, R9.weaken (fun i _ hi => Nat.le_of_lt hi), hTz⟩
 have t3 := T8.at 0 rfl
 by_cases h0 : 0 < rK.1.length
 rotate_left 1
 ·have b0 : decide ((0 : Int) < (rK.1.length : Int)) = false := qg (by omega)
  have b9 : ¬ (0 : Int) < (rK.1.length : Int) := by omega
  have hpg := qq (azv hpA.out h0); clear h0; go_wp2_with fail; go_meet; exact ⟨⟨#[]⟩, 0, 0, ⟨#[]⟩, none, 0, none, 0, [], [], rK, Z8, T8, P8, hp8, hs8, hT8, bbv, hpg⟩
 have b0 : decide ((0 : Int) < (rK.1.length : Int)) = true := qp (by omega)
 have b9 : (0 : Int) < (rK.1.length : Int) := by omega
 have h0h := qq h0
 clear h0
 obtain ⟨r2, hr2⟩ := zz ((tkR 6 rK).2)
 have hL2 : Big r2.1.length := hLKh.out.mono (by rw [← hr2]; exact aya 6 rK)
 obtain ⟨⟨g, rG⟩, hG⟩ := zz (nmR 2 r2)
 have hLG : Big rG.1.length := hL2.mono (by have := ayb 2 r2; rw [hG] at this; exact this)
 have hg := ayc 2 r2
 rw [hG] at hg
 have hg : g < 65536 := hg
 obtain ⟨ib, hib⟩ := zz (g % 2 == 1)
 obtain ⟨jb, hjb⟩ := zz (g / 2 % 2 == 1)
 have a1 := bbk hg; have a2 := bbl hg
 rw [hib] at a1; rw [hjb] at a2
 obtain ⟨⟨mid, rM⟩, hM⟩ := zz (aoj ib rG)
 have hLM : Big rM.1.length := hLG.mono (by have := asx ib rG; rw [hM] at this; exact this)
 have hpB := qq (show pgB rK = if g / 2 % 2 = 1 then ((mid, ax6 (ako (tkR rM.1.length rM).1)), (tkR rM.1.length rM).2) else ((mid, V.zero), rM) by unfold pgB; simp only [hr2, hG, hib, hM])
 have hapB := qq (show g / 2 % 2 = 1 → (ako (tkR rM.1.length rM).1).isSome = true by have h1 := hap1.out h0h.out; simp only [hr2, hG, hib, hM] at h1; exact h1)
 have hr2h := qq hr2; have hGh := qq hG; have hMh := qq hM; have hjh := qq hjb
 have hL2h := qq hL2; have hLGh := qq hLG; have hLMh := qq hLM
 clear hr2 hG hM hL2 hLG hLM hg hib hjb
 go_upto_region 9 with (first | (go_at_call 168; refine (al7 _ rb vb rK 6 hp8 hs8 hLKh.out).mono ?_; rintro e w9 ⟨v9, rfl, -, -, hs9, hu9⟩; rw [hr2h.out] at hs9; have Z9 := Z8.upd hu9 (fun e => by have h1 := hvb.out; have h2 : w.heap.size = vb := e; omega); have T9 := T8.upd hu9 (fun e => by have h1 := hvt.out; have h2 : w3.heap.size = vb := e; omega); have P9 := P8.upd hu9 (fun e => by have h1 := hvp.out; have h2 : w7.heap.size = vb := e; omega); have hp9 := hp8.upd hu9; have hT9 := act hT8 hu9 (by have h1 := hvb.out; omega) hT8.size; have t4 := T9.at 0 rfl) | (go_at_call 169; refine (asy _ rb vb r2 2 hp9 hs9 (by unfold Wd; omega) hL2h.out).mono ?_; rintro e w10 ⟨he, hs10, hu10⟩; simp only [hGh.out] at he hs10; subst he; have Z10 := Z9.upd hu10 (fun e => by have h1 := hvb.out; have h2 : w.heap.size = vb := e; omega); have T10 := T9.upd hu10 (fun e => by have h1 := hvt.out; have h2 : w3.heap.size = vb := e; omega); have P10 := P9.upd hu10 (fun e => by have h1 := hvp.out; have h2 : w7.heap.size = vb := e; omega); have hp10 := hp9.upd hu10; have hT10 := act hT9 hu10 (by have h1 := hvb.out; omega) hT9.size; have t5 := T10.at 0 rfl) | (go_at_call 170; refine (ajk _ rb vb rG ib hp10 hs10 hLGh.out).mono ?_; rintro e w11 ⟨he, hs11, hu11⟩; simp only [hMh.out] at he hs11; subst he; have Z11 := Z10.upd hu11 (fun e => by have h1 := hvb.out; have h2 : w.heap.size = vb := e; omega); have T11 := T10.upd hu11 (fun e => by have h1 := hvt.out; have h2 : w3.heap.size = vb := e; omega); have P11 := P10.upd hu11 (fun e => by have h1 := hvp.out; have h2 : w7.heap.size = vb := e; omega); have hp11 := hp10.upd hu11; have hT11 := act hT10 hu11 (by have h1 := hvb.out; omega) hT10.size; have p3 := P11.at 3 rfl; have y3 := P11.frozen 3))
 have hu12 := Upd.set (S := fun k => k = w7.heap.size) (w := w11) (p := ⟨w7.heap.size, 3, none⟩) rfl (.string mid)
 have P12 := P11.set 3 (.string mid)
 have Z12 := Z11.upd hu12 (fun e => by have h1 := hvp.out; have h2 := htp.out; have h3 := hrt.out; have h4 := hvb.out; have h5 := hvt.out; omega); have T12 := T11.upd hu12 (fun e => by have h1 := hvp.out; have h2 := htp.out; have h3 := hrt.out; have h4 := hvb.out; have h5 := hvt.out; omega); have hp12 := hp11.other hu12 (fun e => by have h1 := hvp.out; have h2 := htp.out; have h3 := hrt.out; have h4 := hvb.out; have h5 := hvt.out; omega); have hs12 := hs11.above hu12 (fun k e => by have h1 := hvp.out; have h2 := htp.out; have h3 := hrt.out; have h4 := hvb.out; omega); have hT12 := hT11.trans (hu12.below hT11.size (fun i e => by have h1 := hvp.out; have h4 := hvb.out; omega))
 have P12 : Blk _ w7.heap.size [.string key, .bool db, .bool eb, .string mid, .int .u8 0, .int .u64 0, .string ⟨#[]⟩, .slice none 0 0, .slice none 0 0] := P12
 generalize World.setCell w11 _ _ = W12 at *
 clear p3 y3 t3 t4 t5 hu9 hu10 hu11 hs8 hs9 hs10 hs11 Z8 Z9 Z10 Z11 T8 T9 T10 T11 P8 P9 P10 P11 hp8 hp9 hp10 hp11 hT8 hT9 hT10 hT11
 cases jb
 ·have hpb := qq (hpB.out.trans (qk (fun e => by have h1 := hjh.out; rw [e] at h1; exact jp h1 (by decide))))
  have hpg := qq (aub hpA.out h0h.out hpb.out); go_wp2_with fail; go_meet; exact ⟨mid, 0, 0, ⟨#[]⟩, none, 0, none, 0, [], [], rM, Z12, T12, P12, hp12, hs12, hT12, bbv, hpg⟩
 obtain ⟨⟨tbs, rT⟩, hTk⟩ := zz (tkR rM.1.length rM)
 have hpb := qq (show pgB rK = ((mid, ax6 (ako tbs)), rT) from (hpB.out.trans (qw (by have h1 := hjh.out; exact beq_iff_eq.1 h1))).trans (by rw [hTk]))
 have hpg := qq (aub hpA.out h0h.out hpb.out)
 have hLT := qq (show Big tbs.length from hLMh.out.mono (by have := azu rM.1.length rM; rw [hTk] at this; exact this))
 have hapC := qq (show (ako tbs).isSome = true by have h1 := hapB.out (by have h1 := hjh.out; exact beq_iff_eq.1 h1); rw [hTk] at h1; exact h1)
 have hTkh := qq hTk
 clear hTk
 go_upto_region 10 with fail
 have hDr := abn W12
 have Z13 := Z12.pure hDr; have hp13 := hp12.pure hDr; have hs13 := hs12.pure hDr; have hT13 := hT12.trans ((hDr).mono hT12.size); have T13 := T12.pure hDr; have P13 := P12.pure hDr
 have q13 := T13.at 0 rfl
 have hb := q13
 refine wp_region_held_drew (S := fun u => u.cell? ⟨w3.heap.size, 0, none⟩ = some (.pointer (some ⟨rb, 0, none⟩))) (by kernel_rfl) hb (fun zg => ?_)
 refine tkH 0 zg ?_
 refine tkF 1 zg ?_ (fun u hSw => hSw)
 refine tkH 2 zg ?_
 refine tkF 3 zg ?_ (fun u hSw => hSw)
 refine aai 4 rfl (fun K hK => ?_)
 go_simp
 go_at_call 171
 (with_reducible refine (aeh _ rb vb rM.1 rM.2 hp13 hs13).mono ?_)
 rintro e _ ⟨rfl, rfl⟩
 refine hK.out _ _ hb (fun zg => ?_)
 clear hK K
 (try simp only [Act.put, lsT, lsZ, lsS])
 refine aai 5 rfl (fun K hK => ?_)
 go_simp
 go_at_call 168
 refine (al7 _ rb vb rM rM.1.length hp13 hs13 hLMh.out).mono ?_
 rintro e w14 ⟨v14, rfl, S14, -, hs14, hu14⟩
 rw [hTkh.out] at S14 hs14
 have Z14 := Z13.upd hu14 (fun e => by have h1 := hvb.out; have h2 : w.heap.size = vb := e; omega); have T14 := T13.upd hu14 (fun e => by have h1 := hvt.out; have h2 : w3.heap.size = vb := e; omega); have P14 := P13.upd hu14 (fun e => by have h1 := hvp.out; have h2 : w7.heap.size = vb := e; omega); have hp14 := hp13.upd hu14; have hT14 := act hT13 hu14 (by have h1 := hvb.out; omega) hT13.size
 have hb := T14.at 0 rfl
 refine hK.out _ _ hb (fun zg => ?_)
 clear hK K
 (try simp only [Act.put, lsT, lsZ, lsS])
 refine aai 6 rfl (fun K hK => ?_)
 go_simp
 go_at_call 172
 refine (aw3 _ _ tbs S14 hLT.out (hT.pure hT14) hapC.out).mono ?_
 rintro e w15 ⟨uk, un, us, uka, ukc, ula, ulc, uks, ul, rfl, huv, huR, hB15⟩
 have huvh := qq huv; clear huv
 have Z15 := Z14.pure hB15; have hp15 := hp14.pure hB15; have hs15 := hs14.pure hB15; have hT15 := hT14.trans ((hB15).mono hT14.size); have T15 := T14.pure hB15; have P15 := P14.pure hB15
 have hb := T15.at 0 rfl
 have p4 := P15.at 4 rfl; have p5 := P15.at 5 rfl; have p6 := P15.at 6 rfl; have p7 := P15.at 7 rfl; have p8 := P15.at 8 rfl; have y4 := P15.frozen 4; have y5 := P15.frozen 5; have y6 := P15.frozen 6; have y7 := P15.frozen 7; have y8 := P15.frozen 8
 refine hK.out _ _ hb (fun zg => ?_)
 clear hK K
 (try simp only [Act.put, lsT, lsZ, lsS])
 refine tkH 7 zg ?_
 refine tkH 8 zg ?_
 refine tkH 9 zg ?_
 refine tkH 10 zg ?_
 refine tkH 11 zg ?_
 refine aai 12 rfl (fun K hK => ?_)
 go_simp
 have hu16 := Upd.app9 w15 w7.heap.size (.int .u8 uk) (.int .u64 un) (.string us) (.slice uka uks.length ukc) (.slice ula ul.length ulc)
 have P16 := P15.app9 (.int .u8 uk) (.int .u64 un) (.string us) (.slice uka uks.length ukc) (.slice ula ul.length ulc)
 have Z16 := Z15.upd hu16 (fun e => by have h1 := hvp.out; have h2 := htp.out; have h3 := hrt.out; have h4 := hvb.out; have h5 := hvt.out; omega); have T16 := T15.upd hu16 (fun e => by have h1 := hvp.out; have h2 := htp.out; have h3 := hrt.out; have h4 := hvb.out; have h5 := hvt.out; omega); have hp16 := hp15.other hu16 (fun e => by have h1 := hvp.out; have h2 := htp.out; have h3 := hrt.out; have h4 := hvb.out; have h5 := hvt.out; omega); have hs16 := hs15.above hu16 (fun k e => by have h1 := hvp.out; have h2 := htp.out; have h3 := hrt.out; have h4 := hvb.out; omega); have hT16 := hT15.trans (hu16.below hT15.size (fun i e => by have h1 := hvp.out; have h4 := hvb.out; omega))
 have R16 := (huR.upd hu16 (fun b hb e => by have h1 := P14.lt; omega)).weaken (fun i _ hi => (show w.heap.size < i by have h1 := P14.lt; have h2 := hvp.out; have h3 := hvb.out; omega))
 unfold ap8 at hu16 P16 Z16 T16 hp16 hs16 hT16 R16
 have hb := T16.at 0 rfl
 refine hK.out _ _ hb (fun zg => ?_)
 clear hK K
 (try simp only [Act.put, lsT, lsZ, lsS])
 refine wpAnyH_done (by kernel_rfl) ?_ _
 clear hb
 generalize World.setCell (World.setCell (World.setCell (World.setCell (World.setCell w15 _ _) _ _) _ _) _ _) _ _ = W16 at *
 clear p4 p5 p6 p7 p8 y4 y5 y6 y7 y8 q13
 go_wp2_with fail
 go_meet
 exact ⟨mid, uk, un, us, uka, ukc, ula, ulc, uks, ul, rT, Z16, T16, P16, hp16, hs16, hT16, R16, qq (by rw [hpg.out, huvh.out])⟩
theorem ac9 {α : Type} {enc : α → List Value} {m bytes base : Nat} {P : Program} {w : World} {ops : Array Oper} {rest : List Oper} {o : Oper} {a : Act} {Q : Exit → Act → World → Prop}
 (hgd : o.guard = none) (s x : Operand) (t e : TypeId) (ho : o.op = .call { callee := .builtin .append, args := #[s, x], argTypes := #[t, t] })
 (hE : ElemT P t e m bytes) (hm : ∀ x, (enc x).length = m)
 (v : Value) (L : List α) (hs : a.eval s = v) (hown : Own base e m enc w v L)
 (y : Value) (L2 : List α) (hone : ∀ x ∈ L2, ∀ u ∈ enc x, u.oneCell' = true) (hx : a.eval x = y) (hsrc : Slc enc m w y L2)
 (hlen : (L.length + L2.length) ≤ maxLen) (hbytes : (L.length + L2.length) * bytes ≤ 140737488355328) (hbase : base ≤ w.heap.size)
 (h : ∀ v' w', Own base e m enc w' v' (L ++ L2) → w.grownBy w' v.ownBlock → (v'.ownBlock = v.ownBlock ∨ v'.ownBlock = some w.heap.size) →
  (v' = .slice none 0 0 ∨ ∃ g cap, v' = .slice (some ⟨g, 0, none⟩) (L.length + L2.length) cap) → wpList P ops Q rest (a.put o.dst v') w') :
 wpList P ops Q (o :: rest) a w := by
 obtain ⟨i, z, hi, hz, hsize, hby, hzs⟩ := hE.ex
 have hL2 : (L2.flatMap enc).length = L2.length * m := abp hm L2
 have key : ∀ v' w', w'.ownsRow base e m v' (L.length + L2.length) (L.flatMap enc ++ L2.flatMap enc) → w.grownBy w' v.ownBlock → (v'.ownBlock = v.ownBlock ∨ v'.ownBlock = some w.heap.size) → wpList P ops Q rest (a.put o.dst v') w' := by
  exact aiy
 have nilcase : y = .slice none 0 0 → L2 = [] → wpList P ops Q (o :: rest) a w := by
  exact ak5
 rcases hsrc with ⟨ya, cap, rfl, hcap, rfl⟩ | ⟨g, off, cap, rfl, hc1, hc2, hcell⟩
 ·exact am0
 ·refine wpList_append_own_at w hgd s x t ho base e i z m bytes hE.ht hi hz hsize hby hzs hE.pos v L.length (L.flatMap enc) hs hown ⟨g, off, none⟩ L2.length cap (L2.flatMap enc) hx hL2 ?_ ?_ hlen hbytes hbase ?_
  ·exact aix
  ·intro u hu
   obtain ⟨y, hmem, hy⟩ := List.mem_flatMap.1 hu; exact hone y hmem u hy
  ·intro v' w' h1 h2 _ h4
   exact key v' w' h1 h2 h4
theorem azw {base : Nat} {w : World} {g n c : Nat} {L : List VT} (h : Own base 56 5 ac6 w (.slice (some ⟨g, 0, none⟩) n c) L) (i : Nat) (hi : i < L.length) (t : VT) :
 Own base 56 5 ac6 (((((w.setCell ⟨g, i * 5, none⟩ (.int .u8 t.k)).setCell ⟨g, i * 5 + 1, none⟩ (.int .u64 t.n)).setCell ⟨g, i * 5 + 2, none⟩ (.string t.s)).setCell ⟨g, i * 5 + 3, none⟩ t.kv).setCell ⟨g, i * 5 + 4, none⟩ t.lv) (.slice (some ⟨g, 0, none⟩) n c) (L.set i t) := by
 have h0 := h.set aak i hi 0 (.int .u8 t.k) (.mk t.k L[i].n L[i].s L[i].kv L[i].lv L[i].ks L[i].l) (by omega) rfl
 have h1 := h0.set aak i (by simpa using hi) 1 (.int .u64 t.n) (.mk t.k t.n L[i].s L[i].kv L[i].lv L[i].ks L[i].l) (by omega) (by rw [List.getElem_set_self]; rfl)
 have h2 := h1.set aak i (by simpa using hi) 2 (.string t.s) (.mk t.k t.n t.s L[i].kv L[i].lv L[i].ks L[i].l) (by omega) (by rw [List.getElem_set_self]; rfl)
 have h3 := h2.set aak i (by simpa using hi) 3 t.kv (.mk t.k t.n t.s t.kv L[i].lv L[i].ks L[i].l) (by omega) (by rw [List.getElem_set_self]; rfl)
 have h4 := h3.set aak i (by simpa using hi) 4 t.lv t (by omega) (by rw [List.getElem_set_self]; rfl)
 simpa only [List.set_set, Nat.add_zero] using h4
theorem azx (w : World) (g b : Nat) (v0 v1 v2 v3 v4 : Value) : Upd (fun i => i = g) w (((((w.setCell ⟨g, b, none⟩ v0).setCell ⟨g, b + 1, none⟩ v1).setCell ⟨g, b + 2, none⟩ v2).setCell ⟨g, b + 3, none⟩ v3).setCell ⟨g, b + 4, none⟩ v4) := by
 have s := fun (u : World) (i : Nat) (v : Value) => Upd.set (S := fun k => k = g) (w := u) (p := ⟨g, i, none⟩) rfl v
 exact af7
structure OwSt (w0 : World) (X : Nat) (B k : Nat) (tk n : Int) (s : ByteArray) (w : World) (kv lv : Value) (ks : List ByteArray) (l L : List VT) : Prop where
 x : Blk w X [.int .u8 tk, .int .u64 n, .string s, kv, lv]
 ko : Own w0.heap.size 9 1 abv w kv ks
 lo : Own w0.heap.size 56 5 ac6 w lv L
 len : L.length = l.length
 old : ∀ j, (h : j < l.length) → (h' : j < L.length) → k ≤ j → L[j] = l[j]
 new : ∀ j, (h : j < l.length) → (h' : j < L.length) → j < k → L[j].v = l[j].v ∧ Rd (MP w0.heap.size kv lv) w L[j]
 up : Upd (acu X) w0 w
 xl : X < w0.heap.size
section
variable {w0 w w' : World} {X B k : Nat} {tk n : Int} {s : ByteArray} {kv lv : Value} {ks : List ByteArray} {l L : List VT}
theorem OwSt.pure (h : OwSt w0 X B k tk n s w kv lv ks l L) (hB : Below w.heap.size w w') : OwSt w0 X B k tk n s w' kv lv ks l L :=
 ⟨h.x.pure hB, h.ko.pure hB, h.lo.pure hB, h.len, h.old, fun j hj hj' hk => ⟨(h.new j hj hj' hk).1, (h.new j hj hj' hk).2.pure hB⟩, h.up.trans (Upd.of_below (S := fun _ => False) hB) (fun _ e _ => e.elim), h.xl⟩
theorem OwSt.row {g c : Nat} {t : VT} {N : Nat} (h : OwSt w0 X B k tk n s w kv (.slice (some ⟨g, 0, none⟩) N c) ks l L) (hk : k < l.length) (ht : Rd (MP w0.heap.size kv (.slice (some ⟨g, 0, none⟩) N c)) w t) (hv : t.v = l[k].v) :
 OwSt w0 X B (k + 1) tk n s (((((w.setCell ⟨g, k * 5, none⟩ (.int .u8 t.k)).setCell ⟨g, k * 5 + 1, none⟩ (.int .u64 t.n)).setCell ⟨g, k * 5 + 2, none⟩ (.string t.s)).setCell ⟨g, k * 5 + 3, none⟩ t.kv).setCell ⟨g, k * 5 + 4, none⟩ t.lv) kv (.slice (some ⟨g, 0, none⟩) N c) ks l (L.set k t) := by
 have hu := azx w g (k * 5) (.int .u8 t.k) (.int .u64 t.n) (.string t.s) t.kv t.lv
 have hg : w0.heap.size ≤ g := h.lo.ge rfl
 have hgw : g < w.heap.size := h.lo.lt rfl
 have hx := h.xl
 have hkL : k < L.length := by rw [h.len]; exact hk
 have hrd : ∀ x, Rd (MP w0.heap.size kv (.slice (some ⟨g, 0, none⟩) N c)) w x → Rd (MP w0.heap.size kv (.slice (some ⟨g, 0, none⟩) N c)) (((((w.setCell ⟨g, k * 5, none⟩ (.int .u8 t.k)).setCell ⟨g, k * 5 + 1, none⟩ (.int .u64 t.n)).setCell ⟨g, k * 5 + 2, none⟩ (.string t.s)).setCell ⟨g, k * 5 + 3, none⟩ t.kv).setCell ⟨g, k * 5 + 4, none⟩ t.lv) x :=
  fun x hx => hx.upd hu (fun i hi e => hi.2.2 (by rw [e]; rfl))
 refine ⟨h.x.upd hu (fun e => by omega), h.ko.upd hu (fun i hi e => am4 h.ko h.lo (by decide) hi (by rw [e]; rfl)), azw h.lo k hkL t, by rw [List.length_set]; exact h.len, fun j hj hj' hkj => ?_, fun j hj hj' hjk => ?_, h.up.trans hu (fun i e hi => by omega), h.xl⟩
 ·rw [List.getElem_set_ne (by omega)]; exact h.old j hj (by simpa using hj') (by omega)
 ·rcases Nat.lt_or_ge j k with h1 | h1
  ·rw [List.getElem_set_ne (by omega)]
   have h2 := h.new j hj (by simpa using hj') h1; exact ⟨h2.1, hrd _ h2.2⟩
  ·obtain rfl : j = k := by omega
   rw [List.getElem_set_self]; exact ⟨hv, hrd _ ht⟩
theorem OwSt.tree {t : VT} (h : OwSt w0 X B k tk n s w kv lv ks l L) (ht : Rd (fun i => w.heap.size ≤ i) w' t) : Rd (MP w0.heap.size kv lv) w' t :=
 ht.weaken (fun i _ hi => ⟨jk h.up.size hi, fun e => by have := h.ko.lt e; omega, fun e => by have := h.lo.lt e; omega⟩)
theorem OwSt.whole {S : Nat → Prop} (h : OwSt w0 X B l.length tk n s w kv lv ks l L) (hu : Upd S w w') (hS : ∀ i, S i → i < w0.heap.size) (hn0 : 0 ≤ n) (hn1 : n < 18446744073709551616) (h0 : 0 ≤ tk) (h1 : tk < 256) : Rd (fun i => w0.heap.size ≤ i) w' (.mk tk n s kv lv ks L) :=
 .mk ((h.ko.upd hu (fun i hi e => by have h2 := h.ko.ge hi; have h3 := hS i e; omega)).slc ac7) (fun _ i hi => h.ko.ge hi) ((h.lo.upd hu (fun i hi e => by have h2 := h.lo.ge hi; have h3 := hS i e; omega)).slc aak) (fun _ i hi => h.lo.ge hi)
  (fun x hx => by
   obtain ⟨j, hj, rfl⟩ := List.getElem_of_mem (show x ∈ L from hx); have hj' : j < l.length := by rw [← h.len]; exact hj
   exact ((h.new j hj' hj hj').2.upd hu (fun i hi e => by have h2 := hi.1; have h3 := hS i e; omega)).weaken (fun i _ hi => hi.1)) hn0 hn1 h0 h1
theorem OwSt.same (h : OwSt w0 X B l.length tk n s w kv lv ks l L) : L.map VT.v = l.map VT.v := by
 refine List.ext_getElem (by simp [h.len]) (fun j h1 h2 => ?_)
 rw [zq, zq]
 exact (h.new j (by simpa using h2) (by simpa using h1) (by simpa using h2)).1
end
theorem azy {P : Nat → Prop} {w : World} {p : PtT} (h : Rd P w p.pr.app) : ∀ v ∈ aat p, v.oneCell' = true := by
 obtain ⟨uk, un, us, uka, ukc, ula, ulc, uks, ul, he, -⟩ := h.open
 obtain ⟨q, id, ⟨key, dur, red, mid, app⟩, body⟩ := p
 have he : app = _ := he
 subst he
 intro v hv
 simp only [aat, List.mem_cons, List.not_mem_nil, or_false] at hv
 rcases hv with rfl | rfl | rfl | rfl | rfl | rfl | rfl | rfl | rfl | rfl | rfl | rfl <;> rfl
theorem aqj : (prog.info? 51).map (fun i => (i.zero, i.size, i.bytes)) = some (some (.agg #[.string ⟨#[]⟩, .int .u64 0, .slice none 0 0]), 3, 48) := by kernel_rfl
theorem afm : ElemT prog 23 51 3 48 := ElemT.mk' underlying23 aqj rfl (by omega)
theorem apc (w : World) (a : Option Addr) (n c : Nat) : (binOp .eql 23 (.slice a n c) (.slice none 0 0)).run prog w = .ok (.bool a.isNone) w := Lib.run_eql_slice_nil w _ _ a n c 0 0 underlying23
theorem aug (w : World) (v : Value) (L : List QuT) (h : Slc aar 3 w v L) (hL : L.length ≤ 1000000) (hone : ∀ x ∈ L, ∀ u ∈ aar x, u.oneCell' = true) :
 Calls prog 81 #[v] w fun e w' => ∃ r, e = .returned r ∧ Own w.heap.size 51 3 aar w' r L ∧ Below w.heap.size w w' := by
 have qS := apc
 obtain ⟨a, cap, rfl, hm⟩ := h.len
 cases a with
 | none =>
  have hn : L = [] := by
   rcases h with ⟨_, _, _, _, h0⟩ | ⟨g, off, cap', hv, _⟩
   ·exact h0
   ·simp at hv
  subst hn; go_enter func81, ntmps81; go_wp2; go_ret; exact ⟨_, rfl, Own.nil, qz _ _⟩
 | some ad =>
  go_enter func81, ntmps81; go_wp2_with (at_builtin; refine ac9 rfl _ _ 23 51 rfl afm aaf _ ([] : List QuT) rfl (Own.made0 w 51 (qj _)) _ L hone rfl (h.pure ((qz _ _).alloc (qj _) _)) (by unfold maxLen; simp <;> omega) (by simp <;> omega) (by simp) ?_; intro v' w2 hown hgr hfr hshape); go_ret; refine ⟨_, rfl, by simpa using hown, ?_⟩; exact ((qz w.heap.size w).alloc (qj _) _).grown hgr (by simp) (fun j e => by have e : some w.heap.size = some j := e; injection e with e; omega)
theorem aqk : (prog.info? 62).map (fun i => (i.zero, i.size, i.bytes)) = some (some (.agg #[.int .u32 0, .string ⟨#[]⟩, .string ⟨#[]⟩, .slice none 0 0, .slice none 0 0]), 5, 88) := by kernel_rfl
theorem afn : ElemT prog 24 62 5 88 := ElemT.mk' underlying24 aqk rfl (by omega)
theorem apd (w : World) (a : Option Addr) (n c : Nat) : (binOp .eql 24 (.slice a n c) (.slice none 0 0)).run prog w = .ok (.bool a.isNone) w := Lib.run_eql_slice_nil w _ _ a n c 0 0 underlying24
theorem auh (w : World) (v : Value) (L : List BrT) (h : Slc aa7 5 w v L) (hL : L.length ≤ 1000000) (hone : ∀ x ∈ L, ∀ u ∈ aa7 x, u.oneCell' = true) :
 Calls prog 82 #[v] w fun e w' => ∃ r, e = .returned r ∧ Own w.heap.size 62 5 aa7 w' r L ∧ Below w.heap.size w w' := by
 have qS := apd
 obtain ⟨a, cap, rfl, hm⟩ := h.len
 cases a with
 | none =>
  have hn : L = [] := by
   rcases h with ⟨_, _, _, _, h0⟩ | ⟨g, off, cap', hv, _⟩
   ·exact h0
   ·simp at hv
  subst hn; go_enter func82, ntmps82; go_wp2; go_ret; exact ⟨_, rfl, Own.nil, qz _ _⟩
 | some ad =>
  go_enter func82, ntmps82; go_wp2_with (at_builtin; refine ac9 rfl _ _ 24 62 rfl afn aag _ ([] : List BrT) rfl (Own.made0 w 62 (qj _)) _ L hone rfl (h.pure ((qz _ _).alloc (qj _) _)) (by unfold maxLen; simp <;> omega) (by simp <;> omega) (by simp) ?_; intro v' w2 hown hgr hfr hshape); go_ret; refine ⟨_, rfl, by simpa using hown, ?_⟩; exact ((qz w.heap.size w).alloc (qj _) _).grown hgr (by simp) (fun j e => by have e : some w.heap.size = some j := e; injection e with e; omega)
theorem aw6 : (prog.info? 90).map (fun i => (i.zero, i.size, i.bytes)) = some (some (.agg #[.int .u32 0, .string ⟨#[]⟩, .string ⟨#[]⟩, .bool false]), 4, 48) := by kernel_rfl
theorem aql : ElemT prog 25 90 4 48 := ElemT.mk' underlying25 aw6 rfl (by omega)
theorem ape (w : World) (a : Option Addr) (n c : Nat) : (binOp .eql 25 (.slice a n c) (.slice none 0 0)).run prog w = .ok (.bool a.isNone) w := Lib.run_eql_slice_nil w _ _ a n c 0 0 underlying25
theorem aui (w : World) (v : Value) (L : List He) (h : Slc adp 4 w v L) (hL : L.length ≤ 1000000) (hone : ∀ x ∈ L, ∀ u ∈ adp x, u.oneCell' = true) :
 Calls prog 83 #[v] w fun e w' => ∃ r, e = .returned r ∧ Own w.heap.size 90 4 adp w' r L ∧ Below w.heap.size w w' := by
 have qS := ape
 obtain ⟨a, cap, rfl, hm⟩ := h.len
 cases a with
 | none =>
  have hn : L = [] := by
   rcases h with ⟨_, _, _, _, h0⟩ | ⟨g, off, cap', hv, _⟩
   ·exact h0
   ·simp at hv
  subst hn; go_enter func83, ntmps83; go_wp2; go_ret; exact ⟨_, rfl, Own.nil, qz _ _⟩
 | some ad =>
  go_enter func83, ntmps83; go_wp2_with (at_builtin; refine ac9 rfl _ _ 25 90 rfl aql adi _ ([] : List He) rfl (Own.made0 w 90 (qj _)) _ L hone rfl (h.pure ((qz _ _).alloc (qj _) _)) (by unfold maxLen; simp <;> omega) (by simp <;> omega) (by simp) ?_; intro v' w2 hown hgr hfr hshape); go_ret; refine ⟨_, rfl, by simpa using hown, ?_⟩; exact ((qz w.heap.size w).alloc (qj _) _).grown hgr (by simp) (fun j e => by have e : some w.heap.size = some j := e; injection e with e; omega)
theorem aqm : (prog.info? 60).map (fun i => (i.zero, i.size, i.bytes)) = some (some (.agg #[.int .u64 0, .string ⟨#[]⟩, .bool false, .bool false, .string ⟨#[]⟩, .int .u8 0, .int .u64 0, .string ⟨#[]⟩, .slice none 0 0, .slice none 0 0, .string ⟨#[]⟩]), 11, 144) := by kernel_rfl
theorem aml : ElemT prog 49 60 11 144 := ElemT.mk' underlying49 aqm rfl (by omega)
theorem apf (w : World) (a : Option Addr) (n c : Nat) : (binOp .eql 49 (.slice a n c) (.slice none 0 0)).run prog w = .ok (.bool a.isNone) w := Lib.run_eql_slice_nil w _ _ a n c 0 0 underlying49
theorem auj (w : World) (v : Value) (L : List MsT) (h : Slc abl 11 w v L) (hL : L.length ≤ 1000000) (hone : ∀ x ∈ L, ∀ u ∈ abl x, u.oneCell' = true) :
 Calls prog 84 #[v] w fun e w' => ∃ r, e = .returned r ∧ Own w.heap.size 60 11 abl w' r L ∧ Below w.heap.size w w' := by
 have qS := apf
 obtain ⟨a, cap, rfl, hm⟩ := h.len
 cases a with
 | none =>
  have hn : L = [] := by
   rcases h with ⟨_, _, _, _, h0⟩ | ⟨g, off, cap', hv, _⟩
   ·exact h0
   ·simp at hv
  subst hn; go_enter func84, ntmps84; go_wp2; go_ret; exact ⟨_, rfl, Own.nil, qz _ _⟩
 | some ad =>
  go_enter func84, ntmps84; go_wp2_with (at_builtin; refine ac9 rfl _ _ 49 60 rfl aml aac _ ([] : List MsT) rfl (Own.made0 w 60 (qj _)) _ L hone rfl (h.pure ((qz _ _).alloc (qj _) _)) (by unfold maxLen; simp <;> omega) (by simp <;> omega) (by simp) ?_; intro v' w2 hown hgr hfr hshape); go_ret; refine ⟨_, rfl, by simpa using hown, ?_⟩; exact ((qz w.heap.size w).alloc (qj _) _).grown hgr (by simp) (fun j e => by have e : some w.heap.size = some j := e; injection e with e; omega)
theorem aw7 : (prog.info? 64).map (fun i => (i.zero, i.size, i.bytes)) = some (some (.agg #[.string ⟨#[]⟩, .int .u64 0, .string ⟨#[]⟩, .bool false, .bool false, .string ⟨#[]⟩, .int .u8 0, .int .u64 0, .string ⟨#[]⟩, .slice none 0 0, .slice none 0 0, .string ⟨#[]⟩]), 12, 160) := by kernel_rfl
theorem aw8 : ElemT prog 31 64 12 160 := ElemT.mk' underlying31 aw7 rfl (by omega)
theorem apg (w : World) (a : Option Addr) (n c : Nat) : (binOp .eql 31 (.slice a n c) (.slice none 0 0)).run prog w = .ok (.bool a.isNone) w := Lib.run_eql_slice_nil w _ _ a n c 0 0 underlying31
theorem auk (w : World) (v : Value) (L : List PtT) (h : Slc aat 12 w v L) (hL : L.length ≤ 1000000) (hone : ∀ x ∈ L, ∀ u ∈ aat x, u.oneCell' = true) :
 Calls prog 136 #[v] w fun e w' => ∃ r, e = .returned r ∧ Own w.heap.size 64 12 aat w' r L ∧ Below w.heap.size w w' := by
 have qS := apg
 obtain ⟨a, cap, rfl, hm⟩ := h.len
 cases a with
 | none =>
  have hn : L = [] := by
   rcases h with ⟨_, _, _, _, h0⟩ | ⟨g, off, cap', hv, _⟩
   ·exact h0
   ·simp at hv
  subst hn; go_enter func136, ntmps136; go_wp2; go_ret; exact ⟨_, rfl, Own.nil, qz _ _⟩
 | some ad =>
  go_enter func136, ntmps136; go_wp2_with (at_builtin; refine ac9 rfl _ _ 31 64 rfl aw8 aae _ ([] : List PtT) rfl (Own.made0 w 64 (qj _)) _ L hone rfl (h.pure ((qz _ _).alloc (qj _) _)) (by unfold maxLen; simp <;> omega) (by simp <;> omega) (by simp) ?_; intro v' w2 hown hgr hfr hshape); go_ret; refine ⟨_, rfl, by simpa using hown, ?_⟩; exact ((qz w.heap.size w).alloc (qj _) _).grown hgr (by simp) (fun j e => by have e : some w.heap.size = some j := e; injection e with e; omega)
theorem aw9 : (prog.info? 68).map (fun i => (i.zero, i.size, i.bytes)) = some (some (.agg #[.string ⟨#[]⟩, .int .u64 0]), 2, 24) := by kernel_rfl
theorem amm : ElemT prog 32 68 2 24 := ElemT.mk' underlying32 aw9 rfl (by omega)
theorem aph (w : World) (a : Option Addr) (n c : Nat) : (binOp .eql 32 (.slice a n c) (.slice none 0 0)).run prog w = .ok (.bool a.isNone) w := Lib.run_eql_slice_nil w _ _ a n c 0 0 underlying32
theorem anp (w : World) (v : Value) (L : List Rf) (h : Slc abc 2 w v L) (hL : L.length ≤ 1000000) (hone : ∀ x ∈ L, ∀ u ∈ abc x, u.oneCell' = true) :
 Calls prog 87 #[v] w fun e w' => ∃ r, e = .returned r ∧ Own w.heap.size 68 2 abc w' r L ∧ Below w.heap.size w w' := by
 have qS := aph
 obtain ⟨a, cap, rfl, hm⟩ := h.len
 cases a with
 | none =>
  have hn : L = [] := by
   rcases h with ⟨_, _, _, _, h0⟩ | ⟨g, off, cap', hv, _⟩
   ·exact h0
   ·simp at hv
  subst hn; go_enter func87, ntmps87; go_wp2; go_ret; exact ⟨_, rfl, Own.nil, qz _ _⟩
 | some ad =>
  go_enter func87, ntmps87; go_wp2_with (at_builtin; refine ac9 rfl _ _ 32 68 rfl amm aa9 _ ([] : List Rf) rfl (Own.made0 w 68 (qj _)) _ L hone rfl (h.pure ((qz _ _).alloc (qj _) _)) (by unfold maxLen; simp <;> omega) (by simp <;> omega) (by simp) ?_; intro v' w2 hown hgr hfr hshape); go_ret; refine ⟨_, rfl, by simpa using hown, ?_⟩; exact ((qz w.heap.size w).alloc (qj _) _).grown hgr (by simp) (fun j e => by have e : some w.heap.size = some j := e; injection e with e; omega)
def ent9 (w : World) (B : Nat) (v0 v1 v2 v3 v4 v5 v6 v7 v8 : Value) : World := ((((((((w.setCell ⟨B, 0, none⟩ v0).setCell ⟨B, 1, none⟩ v1).setCell ⟨B, 2, none⟩ v2).setCell ⟨B, 3, none⟩ v3).setCell ⟨B, 4, none⟩ v4).setCell ⟨B, 5, none⟩ v5).setCell ⟨B, 6, none⟩ v6).setCell ⟨B, 7, none⟩ v7).setCell ⟨B, 8, none⟩ v8
theorem Upd.ent9 (w : World) (B : Nat) (v0 v1 v2 v3 v4 v5 v6 v7 v8 : Value) : Upd (fun k => k = B) w (ent9 w B v0 v1 v2 v3 v4 v5 v6 v7 v8) := aba (S := fun k => k = B) (aba (S := fun k => k = B) (aba (S := fun k => k = B) (aba (S := fun k => k = B) (aba (S := fun k => k = B) (aba (S := fun k => k = B) (aba (S := fun k => k = B) (aba (S := fun k => k = B) (aba (S := fun k => k = B) (Upd.refl (fun k => k = B) w) B 0 v0 rfl) B 1 v1 rfl) B 2 v2 rfl) B 3 v3 rfl) B 4 v4 rfl) B 5 v5 rfl) B 6 v6 rfl) B 7 v7 rfl) B 8 v8 rfl
theorem Blk.ent9 {w : World} {B : Nat} {c0 c1 c2 c3 c4 c5 c6 c7 c8 : Value} (h : Blk w B [c0, c1, c2, c3, c4, c5, c6, c7, c8]) (v0 v1 v2 v3 v4 v5 v6 v7 v8 : Value) : Blk (ent9 w B v0 v1 v2 v3 v4 v5 v6 v7 v8) B [v0, v1, v2, v3, v4, v5, v6, v7, v8] := ((((((((h.set 0 v0).set 1 v1).set 2 v2).set 3 v3).set 4 v4).set 5 v5).set 6 v6).set 7 v7).set 8 v8
theorem arm {w W : World} {B : Nat} (h : Below w.heap.size w W) (hB : w.heap.size ≤ B) (v0 v1 v2 v3 v4 v5 v6 v7 v8 : Value) : Below w.heap.size w (ent9 W B v0 v1 v2 v3 v4 v5 v6 v7 v8) := h.trans ((Upd.ent9 W B v0 v1 v2 v3 v4 v5 v6 v7 v8).below h.size (fun k e => by have e : k = B := e; omega))
def ent4 (w : World) (B : Nat) (v0 v1 v2 v3 : Value) : World := (((w.setCell ⟨B, 0, none⟩ v0).setCell ⟨B, 1, none⟩ v1).setCell ⟨B, 2, none⟩ v2).setCell ⟨B, 3, none⟩ v3
theorem Upd.ent4 (w : World) (B : Nat) (v0 v1 v2 v3 : Value) : Upd (fun k => k = B) w (ent4 w B v0 v1 v2 v3) := aba (S := fun k => k = B) (aba (S := fun k => k = B) (aba (S := fun k => k = B) (aba (S := fun k => k = B) (Upd.refl (fun k => k = B) w) B 0 v0 rfl) B 1 v1 rfl) B 2 v2 rfl) B 3 v3 rfl
theorem Blk.ent4 {w : World} {B : Nat} {c0 c1 c2 c3 : Value} (h : Blk w B [c0, c1, c2, c3]) (v0 v1 v2 v3 : Value) : Blk (ent4 w B v0 v1 v2 v3) B [v0, v1, v2, v3] := (((h.set 0 v0).set 1 v1).set 2 v2).set 3 v3
def ent3 (w : World) (B : Nat) (v0 v1 v2 : Value) : World := ((w.setCell ⟨B, 0, none⟩ v0).setCell ⟨B, 1, none⟩ v1).setCell ⟨B, 2, none⟩ v2
theorem Upd.ent3 (w : World) (B : Nat) (v0 v1 v2 : Value) : Upd (fun k => k = B) w (ent3 w B v0 v1 v2) := aba (S := fun k => k = B) (aba (S := fun k => k = B) (aba (S := fun k => k = B) (Upd.refl (fun k => k = B) w) B 0 v0 rfl) B 1 v1 rfl) B 2 v2 rfl
theorem Blk.ent3 {w : World} {B : Nat} {c0 c1 c2 : Value} (h : Blk w B [c0, c1, c2]) (v0 v1 v2 : Value) : Blk (ent3 w B v0 v1 v2) B [v0, v1, v2] := ((h.set 0 v0).set 1 v1).set 2 v2
theorem afo {w W : World} {B : Nat} (h : Below w.heap.size w W) (hB : w.heap.size ≤ B) (v0 v1 v2 : Value) : Below w.heap.size w (ent3 W B v0 v1 v2) := h.trans ((Upd.ent3 W B v0 v1 v2).below h.size (fun k e => by have e : k = B := e; omega))
theorem afa (t : PT) (P : Nat → Prop) (w : World) (hR : Rd P w t.app) (h0 : t.p.smallB = true) (hT : Tb w) : Calls prog 85 #[t.arg] w fun e w' => ∃ t' : PT, e = .returned t'.arg ∧ t'.p = t.p ∧ Rd (fun i => w.heap.size ≤ i) w' t'.app ∧ Below w.heap.size w w' := by
 have h1 : t.p.chk = 0 ∧ t.p.bytes.length ≤ 8192 := by unfold Pr.smallB at h0; simpa using h0
 have hput0 := fun (u : World) (h : Below w.heap.size w u) => ajj t P u (hR.pure h) (hT.pure h)
 have hget0 := fun (u : World) (h : Below w.heap.size w u) => auf u t.p.text (by show t.p.bytes.length ≤ _; omega) (hT.pure h) (aw5 t.p hR.wf h1.1)
 have hpg : pgO t.p.text.data.toList = some t.p := atj hR.wf h1.1
 obtain ⟨S, hS⟩ := zj t.p.text
 have hput : ∀ (u : World), Below w.heap.size w u → Calls prog 134 #[t.arg] u fun e w' => e = .returned (.tuple #[.string S, .int .i64 0]) ∧ Below u.heap.size u w' := fun u h => by rw [hS]; have q := hput0 u h; rwa [h1.1, qw rfl] at q
 have hget : ∀ (u : World), Below w.heap.size w u → Calls prog 135 #[.string S] u fun e w' => ∃ t' : PT, e = .returned (.tuple #[t'.arg, .int .i64 0]) ∧ t'.p = t.p ∧ Rd (fun i => u.heap.size ≤ i) w' t'.app ∧ Below u.heap.size u w' := fun u h => by rw [hS]; have q := hget0 u h; rw [hpg] at q; exact q
 clear hput0 hget0
 obtain ⟨X, hX⟩ := zz t.p
 rw [hX] at hget ⊢
 obtain ⟨key, dur, red, mid, tv⟩ := t
 have hR : Rd _ _ tv := hR
 obtain ⟨uk, un, us, uka, ukc, ula, ulc, uks, ul, rfl, -⟩ := hR.open
 rw [PT.arg_mk] at hput ⊢
 have hputh := qq hput; have hgeth := qq hget
 clear hput hget hS hX hpg h1 h0 hR
 have zi := ajd
 have hB1 := ((qz w.heap.size w).alloc (qj _) (.cells #[.string key, .bool dur, .bool red, .string mid, .int .u8 uk, .int .u64 un, .string us, .slice uka uks.length ukc, .slice ula ul.length ulc] 58)).alloc (by simp) (.cells #[.string ⟨#[]⟩, .bool false, .bool false, .string ⟨#[]⟩, .int .u8 0, .int .u64 0, .string ⟨#[]⟩, .slice none 0 0, .slice none 0 0] 58)
 have A1 := (Blk.new w [.string key, .bool dur, .bool red, .string mid, .int .u8 uk, .int .u64 un, .string us, .slice uka uks.length ukc, .slice ula ul.length ulc] 58).alloc (.cells #[.string ⟨#[]⟩, .bool false, .bool false, .string ⟨#[]⟩, .int .u8 0, .int .u64 0, .string ⟨#[]⟩, .slice none 0 0, .slice none 0 0] 58)
 have Z1 := Blk.newE (w.alloc (.cells #[.string key, .bool dur, .bool red, .string mid, .int .u8 uk, .int .u64 un, .string us, .slice uka uks.length ukc, .slice ula ul.length ulc] 58)) [.string ⟨#[]⟩, .bool false, .bool false, .string ⟨#[]⟩, .int .u8 0, .int .u64 0, .string ⟨#[]⟩, .slice none 0 0, .slice none 0 0] 58 (w.heap.size + 1) (by simp)
 obtain ⟨a0, a1, a2, a3, a4, a5, a6, a7, a8⟩ := A1.a9
 go_enter func85, ntmps85
 go_upto_region 3 with (first | (go_at_call 134; (with_reducible refine (hputh.out _ hB1).mono ?_); rintro e w2 ⟨rfl, hB2⟩; have hL2 := hB1.trans (hB2.mono hB1.size)) | (go_at_call 135; (with_reducible refine (hgeth.out _ hL2).mono ?_); rintro e w3 ⟨⟨key2, dur2, red2, mid2, tv2⟩, rfl, ht2, hR3, hB3⟩; have hR3 : Rd _ _ tv2 := hR3; obtain ⟨uk2, un2, us2, uka2, ukc2, ula2, ulc2, uks2, ul2, rfl, -⟩ := hR3.open; rw [PT.arg_mk]; have ht2 := qq ht2; have hL3 := hL2.trans (hB3.mono hL2.size)))
 have Z3 := (Z1.pure hB2).pure hB3
 have hs3 := hB2.size
 have hs2 : w.heap.size + 2 ≤ w2.heap.size := by have := hB2.size; simp at this; omega
 have N := Blk.new w3 [.string key2, .bool dur2, .bool red2, .string mid2, .int .u8 uk2, .int .u64 un2, .string us2, .slice uka2 uks2.length ukc2, .slice ula2 ul2.length ulc2] 58
 have hAl := (qz w3.heap.size w3).alloc (qj _) (.cells #[.string key2, .bool dur2, .bool red2, .string mid2, .int .u8 uk2, .int .u64 un2, .string us2, .slice uka2 uks2.length ukc2, .slice ula2 ul2.length ulc2] 58)
 have Z4 := Z3.pure hAl; have hL4 := hL3.trans (hAl.mono hL3.size); have hR4 := hR3.pure hAl
 generalize w3.heap.size = nb at N ⊢
 generalize w3.alloc (.cells #[.string key2, .bool dur2, .bool red2, .string mid2, .int .u8 uk2, .int .u64 un2, .string us2, .slice uka2 uks2.length ukc2, .slice ula2 ul2.length ulc2] 58) = u at N Z4 hL4 hR4 ⊢
 clear hAl hR3 hB3 hL3 Z3 hL2 Z1 A1 hB1 a0 a1 a2 a3 a4 a5 a6 a7 a8 hs3
 obtain ⟨n0, n1, n2, n3, n4, n5, n6, n7, n8⟩ := N.a9; obtain ⟨z0, z1, z2, z3, z4, z5, z6, z7, z8⟩ := Z4.a9; obtain ⟨y0, y1, y2, y3, y4, y5, y6, y7, y8⟩ := Z4.f9
 have Zq := Z4.ent9 (.string key2) (.bool dur2) (.bool red2) (.string mid2) (.int .u8 uk2) (.int .u64 un2) (.string us2) (.slice uka2 uks2.length ukc2) (.slice ula2 ul2.length ulc2)
 have hUq := Upd.ent9 u (w.heap.size + 1) (.string key2) (.bool dur2) (.bool red2) (.string mid2) (.int .u8 uk2) (.int .u64 un2) (.string us2) (.slice uka2 uks2.length ukc2) (.slice ula2 ul2.length ulc2)
 have hBq := arm hL4 (B := w.heap.size + 1) (by omega) (.string key2) (.bool dur2) (.bool red2) (.string mid2) (.int .u8 uk2) (.int .u64 un2) (.string us2) (.slice uka2 uks2.length ukc2) (.slice ula2 ul2.length ulc2)
 have hOq := (hR4.upd hUq (fun k hk e => by have e : k = w.heap.size + 1 := e; omega)).weaken (Q := fun i => w.heap.size ≤ i) (fun i _ hi => by omega)
 obtain ⟨k0, k1, k2, k3, k4, k5, k6, k7, k8⟩ := Zq.a9
 unfold ent9 at k0 k1 k2 k3 k4 k5 k6 k7 k8 hBq hOq
 go_wp2
 refine bodyPost_ret (by simp [results, Tryz.results85, go_sem, k0, k1, k2, k3, k4, k5, k6, k7, k8]; rfl) rfl ?_
 exact ⟨⟨key2, dur2, red2, mid2, _⟩, rfl, ht2.out, hOq, hBq⟩
structure WkT where
 pv : Value
 tv : Value
 zu : List PtT
 zy : List Rf
def WkT.w (t : WkT) : Wk := ⟨t.zu.map PtT.p, t.zy⟩
def WkT.en (t : WkT) : EnT := ⟨4, ⟨#[]⟩, 0, xW, t.pv, t.tv, t.zu, t.zy⟩
def WkT.arg (t : WkT) : Value := .agg #[t.pv, t.tv]
theorem WkT.arg_mk (pv tv : Value) (zu : List PtT) (zy : List Rf) : (WkT.mk pv tv zu zy).arg = .agg #[pv, tv] := rfl
abbrev WkRd (P : Nat → Prop) (w : World) (t : WkT) : Prop := EnRd P w t.en
theorem EnRd.as {P : Nat → Prop} {w : World} {t : EnT} (h : EnRd P w t) (k : Int) (nm : ByteArray) (n : Int) (x : Xn) (h0 : 0 ≤ k) (h1 : k < 256) (h2 : 0 ≤ n) (h3 : n < 18446744073709551616) (h4 : 0 ≤ x.1) (h5 : x.1 < 4294967296) : EnRd P w ⟨k, nm, n, x, t.pv, t.tv, t.zu, t.zy⟩ :=
 ⟨h.p, h.pP, h.r, h.s, h.sP, ⟨h0, h1, h2, h3, h4, h5, h.wf.p, h.wf.t⟩⟩
theorem EnRd.work {P : Nat → Prop} {w : World} {t : EnT} (h : EnRd P w t) : WkRd P w ⟨t.pv, t.tv, t.zu, t.zy⟩ :=
 h.as 4 ⟨#[]⟩ 0 xW (by omega) (by omega) (by omega) (by omega) (by show (0 : Int) ≤ 0; omega) (by show (0 : Int) < 4294967296; omega)
def ayk : Prop := ∀ (t : EnT) (P : Nat → Prop) (w : World), EnRd P w t → Tb w → Calls prog 27 #[t.arg] w fun e w' => e = .returned (.int .i64 t.e.chk) ∧ Below w.heap.size w w'
theorem aik {α : Type} {enc : α → List Value} {m : Nat} {w : World} {g : Nat} {x : α} (hb : Blk w g (enc x)) : Slc enc m w (.slice (some ⟨g, 0, none⟩) 1 1) [x] := by
 refine .inr ⟨g, 0, 1, rfl, qj _, by unfold maxLen; omega, fun i hi j u hu => ?_⟩
 have : i = 0 := by simp at hi; omega
 subst this
 simp only [List.getElem_cons_zero] at hu
 have := hb.cell j
 simp only [Nat.zero_mul, Nat.zero_add]
 rw [this]; exact hu
def amn (l : List MsT) (k : Nat) : Int := ((l.take k).getLast?.map MsT.id).getD 0
theorem afp (l : List MsT) : amn l 0 = 0 := by unfold amn; simp
theorem afq {l : List MsT} {k : Nat} (h : k < l.length) : amn l (k + 1) = l[k].id := by unfold amn; rw [jx h, List.getLast?_concat]; rfl
def apj (n : Int) (l : List MsT) (k : Nat) (h : k < l.length) : Prop := amn l k < l[k].id ∧ l[k].id < n ∧ l[k].m.okB = true
theorem azz {n : Int} {q : QuT} (hq : qn q.name = true) (hl : ah2 q.limit = true) (h : ∀ k, (h : k < q.zw.length) → apj n q.zw k h) : q.q.okB n = true := by
 have h1 : ∀ k, (h : k < q.zw.length) → 1 ≤ q.zw[k].id := by
  intro k
  induction k with
  | zero => intro hk; have := (h 0 hk).1; rw [afp] at this; omega
  | succ k ih => intro hk; have := (h (k + 1) hk).1; rw [afq (by omega)] at this; have := ih (by omega); omega
 refine awh.2 ⟨hq, hl, fun m hm => ?_, ?_⟩
 ·obtain ⟨t, ht, rfl⟩ := jv.1 hm
  obtain ⟨k, hk, rfl⟩ := List.getElem_of_mem ht; exact ⟨h1 k hk, (h k hk).2.1, (h k hk).2.2⟩
 ·show (q.zw.map MsT.m).Pairwise _
  rw [List.pairwise_map]
  have ha : adj (fun a b : MsT => decide (a.id < b.id)) q.zw = true := ahi.2 (fun i hi => by
   have := (h (i + 1) hi).1; rw [afq (by omega)] at this
   exact qp this)
  rw [atm (fun a b c h1 h2 => by rw [qm] at *; omega)] at ha; exact ha.imp (fun hx => qt hx)
theorem bby {n : Int} {q : QuT} {k : Nat} (hk : k < q.zw.length) (hb : ¬ apj n q.zw k hk) : q.q.okB n = false := by
 cases ho : q.q.okB n with
 | false => rfl
 | true =>
  have h := awh.1 ho; refine jp ⟨?_, ?_⟩ hb
  ·have hm := h.ms _ (jv.2 ⟨_, qy hk, rfl⟩)
   rcases k with _ | k
   ·rw [afp]; have : 1 ≤ q.zw[0].id := hm.1; omega
   ·rw [afq (by omega)]
    have hp : (q.zw.map MsT.m).Pairwise (fun a b => a.id < b.id) := h.rs; rw [List.pairwise_map] at hp; exact List.pairwise_iff_getElem.1 hp k (k + 1) (by omega) hk (by omega)
  ·have hm := h.ms _ (jv.2 ⟨_, qy hk, rfl⟩)
   exact ⟨hm.2.1, hm.2.2⟩
theorem ayl {n : Int} {qs : List QuT} {i : Nat} (hi : i < qs.length) (hb : qs[i].q.okB n = false) : qsB n (qs.map QuT.q) = false := by
 cases ho : qsB n (qs.map QuT.q) with
 | false => rfl
 | true =>
  unfold qsB at ho; rw [jj, jt] at ho; have := ho.1 _ (jv.2 ⟨_, qy hi, rfl⟩); rw [hb] at this; cases this
theorem ajv {P : Prop} (h : P := by
 rw [jt]
 intro q hq
 obtain ⟨t, ht, rfl⟩ := jv.1 hq
 obtain ⟨i, hi, rfl⟩ := List.getElem_of_mem ht
 exact h i hi) : P := h
theorem bbz {n : Int} {qs : List QuT} (h : ∀ i, (hi : i < qs.length) → qs[i].q.okB n = true) : qsB n (qs.map QuT.q) = aia abf QuT.name qs := by
 unfold qsB
 have h1 : (qs.map QuT.q).all (Qu.okB n) = true := by
  exact ajv
 rw [h1, Bool.true_and, Bool.eq_iff_iff, ad4 cmpB_ok, ad4 cmpB_ok]
 exact ad6 (c := abf) (k := Qu.name) (g := QuT.q)
theorem bdn {name : ByteArray} {m : MsT} (hq : qn name = true) (h1 : 1 ≤ m.id) (h2 : m.id ≤ 1099511627776) : (En.mk 3 ⟨#[]⟩ 0 Xn.zero [⟨name, m.id, m.pr.p, m.body⟩] []).chk = if m.m.okB = true then 0 else 130 := by
 have e1 : us 3 = 8 := rfl
 have e2 : uN 3 = false := rfl
 have e3 : uM 3 = false := rfl
 have e4 : uX 3 = false := rfl
 have e5 : uW 3 = true := rfl
 have e7 : (⟨#[]⟩ : ByteArray).size = 0 := rfl
 have e8 : ((3 : Int) == 3) = true := rfl
 have e9 : (Xn.zero.1 == 0 && Xn.zero.2.1.size == 0 && Xn.zero.2.2.size == 0) = true := rfl
 have hi : ah2 m.id = true := by unfold ah2; simp only [jj, qm]; exact ⟨h1, h2⟩
 have ho : (En.mk 3 ⟨#[]⟩ 0 Xn.zero [⟨name, m.id, m.pr.p, m.body⟩] []).okB = m.m.okB := by
  unfold En.okB; simp only [e1, e2, e3, e4, e5, e7, e8, e9, List.all_cons, List.all_nil, Bool.and_true]; unfold Pt.okB Ms.okB MsT.m; simp [hq, hi]
 unfold En.chk
 rw [ho]
theorem axa {P : Nat → Prop} {w : World} {B : Nat} {p : PtT} (hb : Blk w B (aat p)) (hr : Rd P w p.pr.app) (hi : 0 ≤ p.id ∧ p.id < 18446744073709551616) : EnRd (fun _ => True) w ⟨3, ⟨#[]⟩, 0, (0, ⟨#[]⟩, ⟨#[]⟩), .slice (some ⟨B, 0, none⟩) 1 1, .slice none 0 0, [p], []⟩ :=
 ⟨aik hb, fun _ _ _ => trivial, fun x hx => by rw [jc.1 hx]; exact hr.weaken (fun _ _ _ => trivial), Slc.nil _ _ _, fun _ _ _ => trivial,
  ⟨(by show (0 : Int) ≤ 3; omega), (by show (3 : Int) < 256; omega), (by show (0 : Int) ≤ 0; omega), (by show (0 : Int) < 18446744073709551616; omega), (by show (0 : Int) ≤ 0; omega), (by show (0 : Int) < 4294967296; omega), fun y hy => by
   have hy : y ∈ [p.p] := hy
   rw [jc.1 hy]; exact ⟨hi.1, hi.2, hr.wf⟩, fun y hy => by have hy : y ∈ ([] : List Rf) := hy; cases hy⟩⟩
theorem axb : (prog.info? 34).map (fun i => (i.zero, i.size)) = some (some (.agg #[.int .u8 0, .string ⟨#[]⟩, .int .u64 0, .int .u32 0, .string ⟨#[]⟩, .string ⟨#[]⟩, .slice none 0 0, .slice none 0 0]), 8) := by kernel_rfl
theorem axc : (prog.info? 64).map (fun i => (i.zero, i.size)) = some (some (.agg #[.string ⟨#[]⟩, .int .u64 0, .string ⟨#[]⟩, .bool false, .bool false, .string ⟨#[]⟩, .int .u8 0, .int .u64 0, .string ⟨#[]⟩, .slice none 0 0, .slice none 0 0, .string ⟨#[]⟩]), 12) := by kernel_rfl
theorem agi {P : Prop} (h : P := by
 go_wp2_with (go_at_call 78; (with_reducible refine (acx _ name).mono ?_); rw [hqb.out]; rintro e w3 ⟨rfl, hB3⟩; have hT3 := hBq.trans (hB3.mono hBq.size); have Q3 := Q1.pure hB3; have A3 := Ar.pure hB3; (try clear b0 b1 b2); obtain ⟨d0, d1, d2⟩ := Q3.a3)
 go_ret
 exact ⟨by rw [hz.out]; rfl, hT3⟩) : P := h
theorem arn (hCk : ayk) (w : World) (nx : Int) (qa : Option Addr) (qc : Nat) (ba : Option Addr) (bn bc : Nat) (ha : Option Addr) (hn hc : Nat) (qs : List QuT) (P : Nat → Prop) (hR : QsRd P w (.slice qa qs.length qc) qs) (hT : Tb w) (hL : qs.length ≤ 1000000 ∧ ∀ q ∈ qs, q.zw.length ≤ 1000000) (hn1 : nx ≤ 1099511627777) :
 Calls prog 47 #[.agg #[.int .u64 nx, .slice qa qs.length qc, .slice ba bn bc, .slice ha hn hc]] w fun e w' => e = .returned (.bool (qsB nx (qs.map QuT.q))) ∧ Below w.heap.size w w' := by
 have hRh := qq hR; have hLh := qq hL
 have hli : (qs.length : Int) ≤ 1000000 := by have := hL.1; omega
 have hB1 := (qz w.heap.size w).alloc (qj _) (.cells #[.int .u64 nx, .slice qa qs.length qc, .slice ba bn bc, .slice ha hn hc] 27)
 have A1 := Blk.new w [.int .u64 nx, .slice qa qs.length qc, .slice ba bn bc, .slice ha hn hc] 27
 have zi := axb; have zp := axc
 have hri := fun (u : World) (h : Below w.heap.size w u) => bdh u (.slice qa qs.length qc) qs (hR.s.pure h) P (fun x hx => (hR.m x hx).pure h) hL.1
 have hrih := qq hri
 have a1 := A1.at 1 rfl
 clear hR hL hri
 go_enter func47, ntmps47
 go_wp2
 clear a1
 go_loopw [12] (fun s12 wr => ∃ i : Nat, i ≤ qs.length ∧ s12 = .int .i64 i ∧ Hid (∀ j, (h : j < qs.length) → j < i → qs[j].q.okB nx = true) ∧ Below w.heap.size w wr ∧ Blk wr w.heap.size [.int .u64 nx, .slice qa qs.length qc, .slice ba bn bc, .slice ha hn hc]) (fun s12 _ => qs.length - (intOf s12).toNat)
 case atStart => exact ⟨0, Nat.zero_le _, rfl, qq (fun j h h' => jp h' (by omega)), hB1, A1⟩
 case round =>
  obtain ⟨i, hi, rfl, hall, hB, A⟩ := hrel; clear A1 hB1; by_cases hlt : i < qs.length
  ·have hSl := (hRh.out.s.pure hB)
   obtain ⟨g, off, rfl⟩ := hSl.addrB hlt; obtain ⟨name, lim, ma, mc, zw, hx, hml, c0, c1, c2⟩ := aep hSl hlt ((hRh.out.m _ (qy hlt)).pure hB); have hmr := qq (show MsRd P wr (.slice ma zw.length mc) zw by have h := (hRh.out.m _ (qy hlt)).pure hB; rw [hx] at h; exact h); have hmi : (zw.length : Int) ≤ 1000000 := by have h := hLh.out.2 _ (qy hlt); rw [hx] at h; have h : zw.length ≤ 1000000 := h; omega
   have hok : qs[i].q.okB nx = (QuT.mk name lim (.slice ma zw.length mc) zw).q.okB nx := by rw [hx]
   have hokh := qq hok; clear hx hml hok hSl; go_upto_region 4 with fail; have Q0 := Blk.new wr [.string name, .int .u64 lim, .slice ma zw.length mc] 51; have hAl := (qz wr.heap.size wr).alloc (qj _) (.cells #[.string name, .int .u64 lim, .slice ma zw.length mc] 51); have Ar := A.pure hAl; have hBq := hB.trans (hAl.mono hB.size); have hmr := qq (hmr.out.pure hAl); obtain ⟨qb, hqb⟩ := zz wr.heap.size; rw [hqb] at Q0 ⊢; have hqw := hB.size; rw [hqb] at hqw; have Q1 := Q0; generalize wr.alloc (.cells #[.string name, .int .u64 lim, .slice ma zw.length mc] 51) = u at Q1 Ar hBq hmr ⊢; clear hqb Q0 hAl c0 c1 c2 hB A; obtain ⟨b0, b1, b2⟩ := Q1.a3; obtain ⟨qb2, hqn⟩ := zz (qn name); have hqb := qq hqn; clear hqn
   have hbadq := qq (fun (h : ¬ (qb2 = true ∧ 1 ≤ lim ∧ lim ≤ 1099511627776)) => show qsB nx (qs.map QuT.q) = false from ayl hlt (by
    rw [hokh.out]
    cases ho : (QuT.mk name lim (.slice ma zw.length mc) zw).q.okB nx with
    | false => rfl
    | true =>
     have r := awh.1 ho; have r1 : qn name = true := r.nm; have r2 : ah2 lim = true := r.lm; unfold ah2 at r2; simp only [jj, qm] at r2
     exact jp ⟨by rw [← hqb.out]; exact r1, r2.1, r2.2⟩ h))
   cases qb2
   ·have hz := qq (hbadq.out (by simp))
    exact agi
   by_cases hl1 : lim < 1
   ·have hz := qq (hbadq.out (by rintro ⟨-, h, -⟩; omega))
    have hd : decide (lim < 1) = true := qp hl1; exact agi
   have hd1 : decide (lim < 1) = false := qg hl1; by_cases hl2 : 1099511627776 < lim
   ·have hz := qq (hbadq.out (by rintro ⟨-, -, h⟩; omega))
    have hd : decide (1099511627776 < lim) = true := qp hl2; exact agi
   have hd2 : decide (1099511627776 < lim) = false := qg hl2; have hidl := qq (show ah2 lim = true by unfold ah2; simp only [jj, qm]; omega); clear hbadq; go_upto_region 8 with (go_at_call 78; (with_reducible refine (acx _ name).mono ?_); rw [hqb.out]; rintro e w3 ⟨rfl, hB3⟩; have hT3 := hBq.trans (hB3.mono hBq.size); have Q3 := Q1.pure hB3; have A3 := Ar.pure hB3; (try clear b0 b1 b2); obtain ⟨d0, d1, d2⟩ := Q3.a3); have hmr3 := qq (hmr.out.pure hB3); clear hl1 hl2 hd1 hd2 hmr Q1 Ar hB3 hBq; go_wp2; go_loopw [5, 33] (fun s5 s33 wr => ∃ k : Nat, k ≤ zw.length ∧ s33 = .int .i64 k ∧ s5 = .int .u64 (amn zw k) ∧ Hid (∀ j, (h : j < zw.length) → j < k → apj nx zw j h) ∧ Hid (0 ≤ amn zw k) ∧ Below w3.heap.size w3 wr) (fun _ s33 _ => zw.length - (intOf s33).toNat)
   case atStart => exact ⟨0, Nat.zero_le _, rfl, by rw [afp], qq (fun j h h' => jp h' (by omega)), qq (by rw [afp]; omega), qz _ _⟩
   case round =>
    obtain ⟨k, hk, rfl, rfl, hgd, hl0, hB⟩ := hrel; have hmr4 := hmr3.out.pure hB; have hBt := hT3.trans (hB.mono hT3.size); have A4 := A3.pure hB; have Q4 := Q3.pure hB; have a0 := A4.at 0 rfl; have q0 := Q4.at 0 rfl; by_cases hkt : k < zw.length
    ·have hbadm := qq (fun (h : ¬ apj nx zw k hkt) => show qsB nx (qs.map QuT.q) = false from ayl hlt (by rw [hokh.out]; exact bby (q := ⟨name, lim, .slice ma zw.length mc, zw⟩) hkt h))
     have hwf := hmr4.wf _ (qy hkt); obtain ⟨g2, off2, rfl⟩ := hmr4.s.addrB hkt; obtain ⟨id, key, dur, red, mid, uk, un, us, uka, ukc, ula, ulc, uks, ul, body, hx, c0, c1, c2, c3, c4, c5, c6, c7, c8, c9, c10⟩ := aga hmr4.s hkt (hmr4.r _ (qy hkt)); have hrd := hmr4.r _ (qy hkt); have hls := afq hkt; obtain ⟨la, hla⟩ := zz (amn zw k); have hl02 := hl0.out; rw [hla] at hl02; have hl0 := qq hl02; have hgm : apj nx zw k hkt ↔ la < id ∧ id < nx ∧ (MsT.mk id (PT.mk key dur red mid (VT.mk uk un us (.slice uka uks.length ukc) (.slice ula ul.length ulc) uks ul)) body).m.okB = true := by unfold apj; rw [hx, hla]
     rw [hx] at hwf hrd hls; dsimp only at hwf hrd hls; rw [hla]; have hgmh := qq hgm; have hlsh := qq hls; have hwfh := qq hwf; have hrdh := qq hrd; clear hgm hls hx hla hwf hrd hl02; go_upto_region 10 with fail; have M0 := Blk.new wr [.int .u64 id, .string key, .bool dur, .bool red, .string mid, .int .u8 uk, .int .u64 un, .string us, .slice uka uks.length ukc, .slice ula ul.length ulc, .string body] 60; have hAl := (qz wr.heap.size wr).alloc (qj _) (.cells #[.int .u64 id, .string key, .bool dur, .bool red, .string mid, .int .u8 uk, .int .u64 un, .string us, .slice uka uks.length ukc, .slice ula ul.length ulc, .string body] 60); have A5 := A4.pure hAl; have Q5 := Q4.pure hAl; have hB5 := hB.trans (hAl.mono hB.size); have hrdh := qq (hrdh.out.pure hAl); generalize wr.heap.size = mb at M0 ⊢; generalize wr.alloc (.cells #[.int .u64 id, .string key, .bool dur, .bool red, .string mid, .int .u8 uk, .int .u64 un, .string us, .slice uka uks.length ukc, .slice ula ul.length ulc, .string body] 60) = u5 at M0 A5 Q5 hB5 hrdh ⊢; clear c0 c1 c2 c3 c4 c5 c6 c7 c8 c9 c10 a0 q0 hAl A4 Q4 hB hBt; have q0 := Q5.at 0 rfl; obtain ⟨m0, m1, m2, m3, m4, m5, m6, m7, m8, m9, m10⟩ := M0.a11; go_upto_region 11 with fail; have P0 := Blk.new u5 [.string name, .int .u64 id, .string key, .bool dur, .bool red, .string mid, .int .u8 uk, .int .u64 un, .string us, .slice uka uks.length ukc, .slice ula ul.length ulc, .string body] 64; have hAl := (qz u5.heap.size u5).alloc (qj _) (.cells #[.string name, .int .u64 id, .string key, .bool dur, .bool red, .string mid, .int .u8 uk, .int .u64 un, .string us, .slice uka uks.length ukc, .slice ula ul.length ulc, .string body] 64); have A6 := A5.pure hAl; have M6 := M0.pure hAl; have hB6 := hB5.trans (hAl.mono hB5.size); have hrdh := qq (hrdh.out.pure hAl); generalize u5.heap.size = pb at P0 ⊢; generalize u5.alloc (.cells #[.string name, .int .u64 id, .string key, .bool dur, .bool red, .string mid, .int .u8 uk, .int .u64 un, .string us, .slice uka uks.length ukc, .slice ula ul.length ulc, .string body] 64) = u6 at P0 A6 M6 hB6 hrdh ⊢; clear q0 m0 m1 m2 m3 m4 m5 m6 m7 m8 m9 m10 hAl A5 Q5 M0 hB5; have a0 := A6.at 0 rfl; have m0 := M6.at 0 rfl; obtain ⟨p0, p1, p2, p3, p4, p5, p6, p7, p8, p9, p10, p11⟩ := P0.a12; have hBt := hT3.trans (hB6.mono hT3.size); by_cases h1 : id ≤ la
     ·have hz := qq (hbadm.out (fun h => by have := (hgmh.out.1 h).1; omega))
      have hd : decide (id ≤ la) = true := qp h1; go_wp2; go_ret; exact ⟨by rw [hz.out]; rfl, hBt⟩
     have hd1 : decide (id ≤ la) = false := qg h1; by_cases h2 : nx ≤ id
     ·have hz := qq (hbadm.out (fun h => by have := (hgmh.out.1 h).2.1; omega))
      have hd : decide (nx ≤ id) = true := qp h2; go_wp2; go_ret; exact ⟨by rw [hz.out]; rfl, hBt⟩
     have hd2 : decide (nx ≤ id) = false := qg h2; obtain ⟨ok, hok⟩ := zz ((MsT.mk id (PT.mk key dur red mid (VT.mk uk un us (.slice uka uks.length ukc) (.slice ula ul.length ulc) uks ul)) body).m.okB); have hid1 : 1 ≤ id := by have := hl0.out; omega
     have hch : (EnT.mk 3 ⟨#[]⟩ 0 (0, ⟨#[]⟩, ⟨#[]⟩) (.slice (some ⟨u6.heap.size, 0, none⟩) 1 1) (.slice none 0 0) [(PtT.mk name id (PT.mk key dur red mid (VT.mk uk un us (.slice uka uks.length ukc) (.slice ula ul.length ulc) uks ul)) body)] []).e.chk = if ok = true then 0 else 130 := by rw [← hok]; exact bdn (m := ⟨id, ⟨key, dur, red, mid, VT.mk uk un us (.slice uka uks.length ukc) (.slice ula ul.length ulc) uks ul⟩, body⟩) hqb.out hid1 (by show id ≤ _; omega)
     have hAl := (qz u6.heap.size u6).alloc (qj _) (.cells #[.string name, .int .u64 id, .string key, .bool dur, .bool red, .string mid, .int .u8 uk, .int .u64 un, .string us, .slice uka uks.length ukc, .slice ula ul.length ulc, .string body] 64); have hB7 := hBt.trans (hAl.mono hBt.size); have hck := hCk (EnT.mk 3 ⟨#[]⟩ 0 (0, ⟨#[]⟩, ⟨#[]⟩) (.slice (some ⟨u6.heap.size, 0, none⟩) 1 1) (.slice none 0 0) [(PtT.mk name id (PT.mk key dur red mid (VT.mk uk un us (.slice uka uks.length ukc) (.slice ula ul.length ulc) uks ul)) body)] []) _ (u6.alloc (.cells #[.string name, .int .u64 id, .string key, .bool dur, .bool red, .string mid, .int .u8 uk, .int .u64 un, .string us, .slice uka uks.length ukc, .slice ula ul.length ulc, .string body] 64)) (axa (p := (PtT.mk name id (PT.mk key dur red mid (VT.mk uk un us (.slice uka uks.length ukc) (.slice ula ul.length ulc) uks ul)) body)) (Blk.new u6 [.string name, .int .u64 id, .string key, .bool dur, .bool red, .string mid, .int .u8 uk, .int .u64 un, .string us, .slice uka uks.length ukc, .slice ula ul.length ulc, .string body] 64) (hrdh.out.pure hAl) hwfh.out) (hT.pure hB7); rw [EnT.arg_mk, hch] at hck; have hokh2 := qq hok; have hckh := qq hck; clear hch hck hok hid1; cases ok
     ·have hz := qq (hbadm.out (fun h => by have := (hgmh.out.1 h).2.2; rw [hokh2.out] at this; cases this))
      simp only [Bool.false_eq_true, if_false] at hckh; go_wp2_with (go_at_call 27; (with_reducible refine hckh.out.mono ?_); rintro e w7 ⟨rfl, hB8⟩; have hF := hB7.trans (hB8.mono hB7.size)); go_ret; exact ⟨by rw [hz.out]; rfl, hF⟩
     ·simp only [if_true] at hckh
      have hgd2 := qq (show ∀ j, (h : j < zw.length) → j < k + 1 → apj nx zw j h from fun j h hj => by
       rcases Nat.lt_or_ge j k with q | q
       ·exact hgd.out j h q
       ·obtain rfl : j = k := by omega
        exact hgmh.out.2 ⟨by omega, by omega, hokh2.out⟩)
      have hl1 := qq (show 0 ≤ amn zw (k + 1) by rw [hlsh.out]; have := hl0.out; omega); go_wp2_with (go_at_call 27; (with_reducible refine hckh.out.mono ?_); rintro e w7 ⟨rfl, hB8⟩; have hF := (hB6.trans (hAl.mono hB6.size)).trans (hB8.mono (jk hB6.size hAl.size)); have M7 := (M6.pure hAl).pure hB8; (clear m0 a0 p0 p1 p2 p3 p4 p5 p6 p7 p8 p9 p10 p11); have m0 := M7.at 0 rfl); go_roundw
      case rel => exact ⟨k + 1, by omega, by go_num, by rw [hlsh.out], hgd2, hl1, hF⟩
      case measure => simp [intOf]; omega
    ·obtain rfl : k = zw.length := by omega
     have hall2 := qq (show ∀ j, (h : j < qs.length) → j < i + 1 → qs[j].q.okB nx = true from fun j h hj => by
      rcases Nat.lt_or_ge j i with q | q
      ·exact hall.out j h q
      ·obtain rfl : j = i := by omega
       rw [hokh.out]
       exact azz (q := ⟨name, lim, .slice ma zw.length mc, zw⟩) hqb.out hidl.out (fun k hk => hgd.out k hk hk))
     have hki : ¬ (zw.length : Int) < (zw.length : Int) := by omega
     clear a0 q0; go_wp2; go_roundw
     case rel => exact ⟨i + 1, by omega, by go_num, hall2, hBt, A4⟩
     case measure => simp [intOf]; omega
  ·have hz := qq (bbz (n := nx) (qs := qs) (fun j h => hall.out j h (by omega)))
   have a1 := A.at 1 rfl; go_wp2_with (go_at_call 112; (with_reducible refine (hrih.out _ hB).mono ?_); rintro e w2 ⟨rfl, hB2⟩; have hF := hB.trans (hB2.mono hB.size)); go_ret; exact ⟨by rw [hz.out]; rfl, hF⟩
open Go.RowKit Go.ChangeMaps Go.MapKept Tryz
section
variable {κ ε : Type} {P : Program} {t k e : TypeId} {kv : κ → Value} {kl : κ → Lit} {ok : κ → Prop} {ev : ε → Value} {dec : Value → Option ε} {z : ε} {w : World} {b cnt : Nat} {h : κ → Option ε}
theorem MapG.drew (M : MapG P k kl ok dec w b h cnt) : MapG P k kl ok dec w.drew b h cnt := M
theorem MapG.look_run (T : MapT P t k e kv kl ok ev dec z) (M : MapG P k kl ok dec w b h cnt) {u : κ} (hu : ok u) : (Instr.lookup t (.map (some b)) (kv u) false).run P w = .ok (ev ((h u).getD z)) w := by
 obtain ⟨D, h1, h2, h3⟩ := M
 obtain ⟨v, ps, hrun, hv⟩ := h1.lookup T.K T.ht (T.hz w) (zd := .held z) (zp := []) (by simp [avp, T.de]) (T.hkey u hu)
 rw [hrun, MapG.elem T (h3 u hu) hv]
variable [DecidableEq κ]
theorem MapG.put_run (T : MapT P t k e kv kl ok ev dec z) (M : MapG P k kl ok dec w b h cnt) (hn : cnt < maxLen) {u : κ} (hu : ok u) (y : ε) :
 ∃ w', (Instr.mapUpdate t (.map (some b)) (kv u) (ev y)).run P w = .ok () w' ∧ MapG P k kl ok dec w' b (fun i => if i = u then some y else h i) (if (h u).isSome then cnt else cnt + 1) ∧ w.grownBy w' (some b) := by
 obtain ⟨D, h1, h2, h3⟩ := M
 obtain ⟨w', hrun, g1, g2⟩ := h1.update T.K T.ht hn (val := ev y) (T.hkey u hu) (d := .held y) (ps := []) (by simp [avp, T.de])
 have hsz := Maps.size_put (k := kl u) (h1.tidy T.K) (.held y)
 refine ⟨w', hrun, ⟨_, ?_, ?_, MapG.put_law T h1 h3 hu y⟩, g2⟩
 ·have g3 := bbe g1
  rw [hsz, (h3 u hu).1, h2] at g3; exact g3
 ·rw [hsz, (h3 u hu).1, h2]
end
section
variable {κ ε : Type} {P : Program} {t k e : TypeId} {kv : κ → Value} {kl : κ → Lit} {ok : κ → Prop} {ev : ε → Value} {dec : Value → Option ε} {z : ε} {w : World} {b cnt : Nat} {h : κ → Option ε}
theorem aro (K : WideMaps.KeyLaw P k) (ht : P.underlying t = some (.map k e)) {zv : Value} (hz : ∀ u : World, (zeroValue e).run P u = .ok zv u) {es : Array MapEntry} {clock : Nat} (hb : w.heap[b]? = some (.map es clock))
 (hks : ∀ x ∈ es.toList, ∃ l, keyOf P k x.key = some l) {key : Value} {kl : Lit} (hkey : keyOf P k key = some kl) :
 ∃ (v0 : Value) (st : Nat) (w1 : World), (Instr.mapEntry t (.map (some b)) key).run P w = .ok (.tuple #[v0, goInt st]) w1 ∧ (Instr.mapUpdate t (.map (some b)) key v0).run P w = .ok () w1 ∧ (Instr.lookup t (.map (some b)) key false).run P w = .ok v0 w := by
 rcases K.find w hkey es.toList hks with ⟨h1, h2⟩ | ⟨j, e0, h1, h2, h3⟩
 ·refine ⟨zv, clock, setBlock w b (.map (es.push ⟨key, zv, clock⟩) (clock + 1)), ?_, ?_, ?_⟩
  ·simp [Instr.mapEntry, run_underlying ht, MapKept.run_getObj_map hb, K.check w false hkey, h1, hz, MapKept.run_setObj_map _ hb, Result.andThen, setBlock]
  ·simp [Instr.mapUpdate, run_underlying ht, MapKept.run_getObj_map hb, K.check w false hkey, h1, MapKept.run_setObj_map _ hb, Result.andThen, setBlock]
  ·simp [Instr.lookup, run_underlying ht, MapKept.run_getObj_map hb, K.check w _ hkey, h1, hz, Result.andThen]
 ·have hj : es[j]? = some e0 := by simpa using h2
  have e1 : es.modify j (fun e' => { e' with key := key, val := e0.val }) = es.modify j (fun e' => { e' with key := key }) := by
   apply Array.ext'; rw [Array.toList_modify, Array.toList_modify, modify_eq_set _ _ _ _ h2, modify_eq_set _ _ _ _ h2]
  refine ⟨e0.val, e0.born, setBlock w b (.map (es.modify j (fun e' => { e' with key := key })) clock), ?_, ?_, ?_⟩
  ·simp [Instr.mapEntry, run_underlying ht, MapKept.run_getObj_map hb, K.check w false hkey, h1, hj, h3, K.stays w hkey, MapKept.run_setObj_map _ hb, Result.andThen, setBlock]
  ·simp [Instr.mapUpdate, run_underlying ht, MapKept.run_getObj_map hb, K.check w false hkey, h1, hj, h3, K.stays w hkey, MapKept.run_setObj_map _ hb, Result.andThen, setBlock, e1]
  ·simp [Instr.lookup, run_underlying ht, MapKept.run_getObj_map hb, K.check w _ hkey, h1, Result.andThen]
variable [DecidableEq κ]
theorem MapG.entry_run (T : MapT P t k e kv kl ok ev dec z) (KL : WideMaps.KeyLaw P k) (M : MapG P k kl ok dec w b h cnt) (hn : cnt < maxLen) {u : κ} (hu : ok u) :
 ∃ (st : Nat) (w1 : World), (Instr.mapEntry t (.map (some b)) (kv u)).run P w = .ok (.tuple #[ev ((h u).getD z), .int .i64 st]) w1 ∧ MapG P k kl ok dec w1 b (fun i => if i = u then some ((h u).getD z) else h i) (if (h u).isSome then cnt else cnt + 1) ∧ w.grownBy w1 (some b) ∧
  ∀ (y : ε), ∃ w3, (Instr.entryStore t (.map (some b)) (.int .i64 st) (ev y)).run P w1 = .ok () w3 ∧ MapG P k kl ok dec w3 b (fun i => if i = u then some y else h i) (if (h u).isSome then cnt else cnt + 1) ∧ w.grownBy w3 (some b) := by
 have hlook := M.look_run T hu
 have hput := fun y => M.put_run T hn hu y
 obtain ⟨D, ⟨es, clock, hb, F, hs, -⟩, -, -⟩ := M
 obtain ⟨v0, st, w1, a1, a2, a3⟩ := aro (w := w) KL T.ht T.hz hb F.keys (T.hkey u hu)
 obtain ⟨v0', st', es1, clock1, b1, -, b3⟩ := WideElems.entry_then_store KL T.ht T.hz hb F (T.hkey u hu)
 rw [a1] at b1
 injection b1 with b1 b1w
 injection b1 with b1
 have c1 : v0 = v0' := by have := congrArg (fun a => a[0]?) b1; simpa using this
 have c2 : goInt st = goInt st' := by have := congrArg (fun a => a[1]?) b1; simpa using this
 rw [a3] at hlook
 injection hlook with hv0
 obtain ⟨wp, p1, p2, p3⟩ := hput ((h u).getD z)
 rw [← hv0, a2] at p1
 injection p1 with _ p1
 refine ⟨st, w1, by rw [a1, hv0]; rfl, by rw [p1]; exact p2, by rw [p1]; exact p3, fun y => ?_⟩
 obtain ⟨wq, q1, q2, q3⟩ := hput y
 have hb1 : w1.heap[b]? = some (.map es1 clock1) := by
  rw [b1w]; exact heap_setBlock_same hb _
 obtain ⟨es', clock', r1, r2⟩ := b3 w1 (ev y) hb1
 rw [q1] at r2
 injection r2 with _ r2
 refine ⟨wq, ?_, q2, q3⟩
 have : setBlock w1 b (.map es' clock') = wq := by rw [r2, b1w]; unfold setBlock; simp
 rw [← this, ← r1, ← c2]; rfl
end
open Go.Maps (Keyed)
instance : DecidableEq Rf := fun a b => by
 obtain ⟨p, q⟩ := a
 obtain ⟨r, s⟩ := b
 exact if h : p.toList = r.toList ∧ q = s then .isTrue (by rw [toList_inj h.1, h.2]) else .isFalse (fun e => h (by injection e with e1 e2; exact ⟨by rw [e1], e2⟩))
def kvR (r : Rf) : Value := .agg #[.string r.q, .int .u64 r.id]
def klR (r : Rf) : Lit := .string (keyBytes [.string r.q.data.toList, .int .u64 r.id])
def okR (r : Rf) : Prop := r.q.size ≤ maxLen ∧ 0 ≤ r.id ∧ r.id < 18446744073709551616
def evN (n : Int) : Value := .int .i64 n
def bdo : Value → Option Int
 | .int .i64 n => some n
 | _ => none
theorem bb0 : laidOutB prog = true := by kernel_rfl
theorem bb1 : 68 < prog.types.size := qt (by kernel_rfl)
theorem refs_law : WideMaps.KeyLaw prog 68 := deep_law_laid bb0 (m := 2) (by omega) bb1 (by kernel_rfl) (by kernel_rfl)
theorem arp : ∃ fs, prog.underlying 68 = some (.struct fs) := ⟨_, underlying68⟩
theorem arq (r : Rf) : (kvR r).formed prog 68 = true := by
 have hc : prog.cellsOf 68 = 2 := by kernel_rfl
 obtain ⟨fs, hu⟩ := arp
 simp [kvR, Value.formed, hu, hc]
theorem apk (r : Rf) (h : okR r) : keyOf prog 68 (kvR r) = some (klR r) := by
 have h1 : prog.keyType 68 = true := by kernel_rfl
 have hc : prog.cellsOf 68 = 2 := by kernel_rfl
 have hc1 : prog.cellsOf 9 = 1 := by kernel_rfl
 have hc2 : prog.cellsOf 22 = 1 := by kernel_rfl
 have hk : ∀ m, prog.keyLits (m + 2) 68 [.string r.q, .int .u64 r.id] = some [.string r.q.data.toList, .int .u64 r.id] := fun m => by
  obtain ⟨a, b, c⟩ := h; have e1 : IntKind.u64.min ≤ r.id := b
  have e2 : r.id ≤ IntKind.u64.max := by
   have : IntKind.u64.max = 18446744073709551615 := by decide
   omega
  simp [Program.keyLits, underlying68, underlying9, underlying22, hc, hc1, hc2, a, Lit.wf, e1, e2]
 have hs : 1 ≤ prog.types.size := Nat.lt_of_le_of_lt (Nat.zero_le _) bb1
 obtain ⟨m, hm⟩ : ∃ m, prog.types.size + 1 = m + 2 := ⟨prog.types.size - 1, by omega⟩
 unfold keyOf
 simp only [underlying68, h1, arq r, hm]
 rw [show (kvR r).cells.toList = [.string r.q, .int .u64 r.id] from rfl, hk m]
 rfl
theorem az0 {a b : Rf} (h : kvR a = kvR b) : a = b := by
 unfold kvR at h
 simp at h
 obtain ⟨p, q⟩ := a
 obtain ⟨r, s⟩ := b
 obtain ⟨h1, h2⟩ := h
 subst h2
 have : p = r := h1
 rw [this]
theorem arr : MapT prog 145 68 3 kvR klR okR evN bdo 0 where
 ht := underlying145
 K := Keyed.of_law refs_law
 hkey := apk
 inj := fun x y hx hy h => az0 (refs_law.inj (apk x hx) (by rw [h]; exact apk y hy))
 de := fun y => rfl
 ed := fun v y h => by
  unfold bdo at h; split at h
  ·injection h with h; subst h; rfl
  ·cases h
 hz := fun w => by kernel_rfl
abbrev RefsM (w : World) (b : Nat) (h : Rf → Option Int) (cnt : Nat) : Prop := MapG prog 68 klR okR bdo w b h cnt
def aib (L : List Rf) (r : Rf) : Option Int := if aa8 L r = 0 then none else some (aa8 L r)
theorem ail (L : List Rf) (r : Rf) : (aib L r).getD 0 = aa8 L r := by unfold aib; split <;> simp_all
theorem axd (L : List Rf) (r i : Rf) : (if i = r then some ((aa8 L r : Int) + 1) else aib L i) = aib (L ++ [r]) i := by
 unfold aib
 rw [aa6, acw, adb]
 by_cases e : i = r
 ·subst e
  rw [qw rfl, qw (abt.2 rfl), qk (by omega)]; congr 1
 ·rw [qk e, qk (fun q => e (abt.1 q).symm)]
  simp
end Go.Proofs.YtgnaifhmcllnlaaGreatDoor
