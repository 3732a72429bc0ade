/- Entries: getAll, the program's. Conditions: the text is short enough to be in memory; utf8's tables are laid. Written by gen_enH.py. (Texts joined.) -/
import Derived.Test.YtlonokcaddpniaaGreatDoorEE
import Derived.Test.YtlonokcaddpniaaGreatDoorPK
import Derived.Test.YtlonokcaddpniaaGreatDoorKM
set_option linter.unusedSimpArgs false
set_option linter.unusedVariables false
namespace Go.Proofs.YtlonokcaddpniaaGreatDoor
open Go.RowKit
theorem put_info : (Tryz.prog.info? 35).map (fun i => (i.zero, i.size)) = some (some (.agg #[.string ⟨#[]⟩, .int .u64 0, .string ⟨#[]⟩, .bool false, .bool false, .string ⟨#[]⟩, .int .u8 0, .int .u64 0, .string ⟨#[]⟩, .slice none 0 0, .slice none 0 0, .string ⟨#[]⟩]), 12) := by kernel_rfl
theorem ref_info : (Tryz.prog.info? 37).map (fun i => (i.zero, i.size)) = some (some (.agg #[.string ⟨#[]⟩, .int .u64 0]), 2) := by kernel_rfl
/-- Twelve cells stored. -/
def set12 (w : World) (B : Nat) (v0 v1 v2 v3 v4 v5 v6 v7 v8 v9 v10 v11 : Value) : World := (((((((((((w.setCell ⟨B, 0, none⟩ v0).setCell ⟨B, 1, none⟩ v1).setCell ⟨B, 2, none⟩ v2).setCell ⟨B, 3, none⟩ v3).setCell ⟨B, 4, none⟩ v4).setCell ⟨B, 5, none⟩ v5).setCell ⟨B, 6, none⟩ v6).setCell ⟨B, 7, none⟩ v7).setCell ⟨B, 8, none⟩ v8).setCell ⟨B, 9, none⟩ v9).setCell ⟨B, 10, none⟩ v10).setCell ⟨B, 11, none⟩ v11
theorem Upd.at12 (w : World) (B : Nat) (v0 v1 v2 v3 v4 v5 v6 v7 v8 v9 v10 v11 : Value) : Upd (fun k => k = B) w (set12 w B v0 v1 v2 v3 v4 v5 v6 v7 v8 v9 v10 v11) := upd_set _ B _ _ (upd_set _ B _ _ (upd_set _ B _ _ (upd_set _ B _ _ (upd_set _ B _ _ (upd_set _ B _ _ (upd_set _ B _ _ (upd_set _ B _ _ (upd_set _ B _ _ (upd_set _ B _ _ (upd_set _ B _ _ (upd_set _ B _ _ (Upd.refl _ w) rfl) rfl) rfl) rfl) rfl) rfl) rfl) rfl) rfl) rfl) rfl) rfl
theorem Blk.fresh12 {w : World} {B : Nat} {c0 c1 c2 c3 c4 c5 c6 c7 c8 c9 c10 c11 : Value} (h : Blk w B [c0, c1, c2, c3, c4, c5, c6, c7, c8, c9, c10, c11]) (v0 v1 v2 v3 v4 v5 v6 v7 v8 v9 v10 v11 : Value) : Blk (set12 w B v0 v1 v2 v3 v4 v5 v6 v7 v8 v9 v10 v11) B [v0, v1, v2, v3, v4, v5, v6, v7, v8, v9, v10, v11] := (((((((((((h.set 0 v0).set 1 v1).set 2 v2).set 3 v3).set 4 v4).set 5 v5).set 6 v6).set 7 v7).set 8 v8).set 9 v9).set 10 v10).set 11 v11
/-- The properties of a put that lies in memory are stored. -/
def setPr (w : World) (B : Nat) (v0 v1 v2 v3 v4 v5 v6 v7 v8 : Value) : World := ((((((((w.setCell ⟨B, 2, none⟩ v0).setCell ⟨B, 3, none⟩ v1).setCell ⟨B, 4, none⟩ v2).setCell ⟨B, 5, none⟩ v3).setCell ⟨B, 6, none⟩ v4).setCell ⟨B, 7, none⟩ v5).setCell ⟨B, 8, none⟩ v6).setCell ⟨B, 9, none⟩ v7).setCell ⟨B, 10, none⟩ v8
theorem Upd.atPr (w : World) (B : Nat) (v0 v1 v2 v3 v4 v5 v6 v7 v8 : Value) : Upd (fun k => k = B) w (setPr w B v0 v1 v2 v3 v4 v5 v6 v7 v8) := upd_set _ B _ _ (upd_set _ B _ _ (upd_set _ B _ _ (upd_set _ B _ _ (upd_set _ B _ _ (upd_set _ B _ _ (upd_set _ B _ _ (upd_set _ B _ _ (upd_set _ B _ _ (Upd.refl _ w) rfl) rfl) rfl) rfl) rfl) rfl) rfl) rfl) rfl
theorem Blk.atPr {w : World} {B : Nat} {c0 c1 c2 c3 c4 c5 c6 c7 c8 c9 c10 c11 : Value} (h : Blk w B [c0, c1, c2, c3, c4, c5, c6, c7, c8, c9, c10, c11]) (v0 v1 v2 v3 v4 v5 v6 v7 v8 : Value) : Blk (setPr w B v0 v1 v2 v3 v4 v5 v6 v7 v8) B [c0, c1, v0, v1, v2, v3, v4, v5, v6, v7, v8, c11] := ((((((((h.set 2 v0).set 3 v1).set 4 v2).set 5 v3).set 6 v4).set 7 v5).set 8 v6).set 9 v7).set 10 v8
/-- What stands while an entry is read: the reader's box, the reader. -/
structure RdE (w : World) (tb rb vb : Nat) (r : RS) : Prop where
  b : Blk w tb [.pointer (some ⟨rb, 0, none⟩)]
  p : RdP w rb vb
  s : RdS w vb r.1 r.2
  v : vb < tb
  q : rb < tb
  l : Big r.1.length
theorem RdE.pure {w w' : World} {tb rb vb : Nat} {r : RS} (h : RdE w tb rb vb r) (hB : Below w.heap.size w w') : RdE w' tb rb vb r := ⟨h.b.pure hB, h.p.pure hB, h.s.pure hB, h.v, h.q, h.l⟩
theorem RdE.next {w w' : World} {tb rb vb : Nat} {r r' : RS} (h : RdE w tb rb vb r) (hu : Upd (Only vb) w w') (hs : RdS w' vb r'.1 r'.2) (hl : r'.1.length ≤ r.1.length) : RdE w' tb rb vb r' :=
  ⟨h.b.upd hu (fun e => by have h1 := h.v; unfold Only at e; omega), h.p.upd hu, hs, h.v, h.q, h.l.mono hl⟩
theorem RdE.other {S : Nat → Prop} {w w' : World} {tb rb vb : Nat} {r : RS} (h : RdE w tb rb vb r) (hu : Upd S w w') (hS : ∀ k, S k → tb < k) : RdE w' tb rb vb r :=
  ⟨h.b.upd hu (fun e => by have h1 := hS _ e; omega), h.p.other hu (fun e => by have h1 := hS _ e; have h2 := h.q; omega), h.s.above hu (fun k e => by have h1 := hS _ e; have h2 := h.v; omega), h.v, h.q, h.l⟩
theorem txR_size (n m : Nat) (r : RS) : (txR n m r).1.size ≤ m := by
  unfold txR; split
  · rcases h : gT n m r.1 with _ | ⟨s, b⟩
    · simp [ByteArray.size]
    · exact (gT_le h).2
  · simp [ByteArray.size]
theorem wrap_u8' (x : Int) (h0 : 0 ≤ x) (h : x < 256) : IntKind.u8.wrap x = x := by
  have e : IntKind.u8.wrap x = x % 256 := rfl; rw [e]; omega
theorem en_wrap8 (n : Nat) (h : n < 256) : IntKind.u8.wrap (n : Int) = (n : Int) := wrap_u8' (n : Int) (by omega) (by omega)
set_option maxRecDepth 100000 in
set_option maxHeartbeats 3200000 in
theorem eget2_any (w : World) (tb rb vb : Nat) (r : RS) (h : RdE w tb rb vb r) : Calls Tryz.prog 93 #[.pointer (some ⟨tb, 0, none⟩)] w fun e w' => ∃ (q : ByteArray) (id : Int), e = .returned (.agg #[.string q, .int .u64 id]) ∧ (⟨q, id⟩ : Rf) = (rdRf r).1 ∧ RdE w' tb rb vb (rdRf r).2 ∧ Upd (Only vb) w w' := by
  obtain ⟨⟨q, r1⟩, hq⟩ : ∃ x, txR 1 255 r = x := ⟨_, rfl⟩
  obtain ⟨⟨id, r2⟩, hi⟩ : ∃ x, nmR 8 r1 = x := ⟨_, rfl⟩
  have hrd := Lib.hid (show rdRf r = (⟨q, id⟩, r2) by unfold rdRf; rw [hq]; dsimp only; rw [hi]); have l1 := Lib.hid (show r1.1.length ≤ r.1.length by have := txR_le 1 255 r; rw [hq] at this; exact this); have l2 := Lib.hid (show r2.1.length ≤ r1.1.length by have := nmR_le 8 r1; rw [hi] at this; exact this); have htb := h.b.lt; have hA0 := (Below.refl w.heap.size w).alloc (Nat.le_refl _) (.cells #[.string ⟨#[]⟩, .int .u64 0] 37); have hU0 := Upd.of_below (S := Only vb) hA0; have E0 := h.pure hA0; have Z0 := Blk.new w [.string ⟨#[]⟩, .int .u64 0] 37; have t0 := E0.b.at 0 rfl; have zi := ref_info; have hqh := Lib.hid hq; have hih := Lib.hid hi; have htbh := Lib.hid htb; have hvh := Lib.hid h.v; clear hq hi htb; go_enter Tryz.func93, Tryz.ntmps93; go_upto_region 3 with (first | (go_at_call 88; refine (ptext_rs _ rb vb r 1 255 E0.p E0.s (by omega) E0.l (by unfold Big; omega)).mono ?_; rintro e w2 ⟨he, hs2, hu2⟩; simp only [hqh.out] at he hs2; subst he; have E2 := E0.next hu2 hs2 l1.out; have Z2 := Z0.upd hu2 (fun e => by have h1 := hvh.out; have h2 := htbh.out; unfold Only at e; omega); have hA3 := (Below.refl w2.heap.size w2).alloc (Nat.le_refl _) (.cells #[.string q, .int .u64 0] 37); have E3 := E2.pure hA3; have Z3 := Z2.pure hA3; have B3 := Blk.new w2 [.string q, .int .u64 0] 37; have hU3 := (hU0.only2 hu2).only2 (Upd.of_below hA3); have t3 := E3.b.at 0 rfl) | (go_at_call 87; refine (pnum_rs _ rb vb r1 8 E3.p E3.s (by unfold Wd; omega) E3.l).mono ?_; rintro e w4 ⟨he, hs4, hu4⟩; simp only [hih.out] at he hs4; subst he; have E4 := E3.next hu4 hs4 l2.out; have hv2 := Lib.hid (show vb < w2.heap.size from hs2.lt); have Z4 := Z3.upd hu4 (fun e => by have h1 := hvh.out; have h2 := htbh.out; unfold Only at e; omega); have B4 := B3.upd hu4 (fun e => by have h1 := hv2.out; unfold Only at e; omega); have hU4 := hU3.only2 hu4; have b1 := B4.at 1 rfl; have y1 := B4.frozen 1)); have hu5 := Upd.set (S := fun k => k = w2.heap.size) (w := w4) (p := ⟨w2.heap.size, 1, none⟩) rfl (.int .u64 id); have B5 : Blk _ w2.heap.size [.string q, .int .u64 id] := B4.set 1 (.int .u64 id); have Z5 := Z4.upd hu5 (fun e => by have h1 := hU0.size; have h2 := hu2.size; simp at h1 h2; omega); have E5 := E4.other hu5 (fun k e => by have h1 := hU0.size; have h2 := hu2.size; have h3 := htbh.out; simp at h1 h2; omega); have hU5 := hU4.trans hu5 (fun k e hk => by have h1 := hU0.size; have h2 := hu2.size; simp at h1 h2; omega); generalize World.setCell w4 _ _ = w5 at *; clear b1 y1 t0 t3; have b0 := B5.at 0 rfl; have b1 := B5.at 1 rfl; have z0 := Z5.at 0 rfl; have z1 := Z5.at 1 rfl; have y0 := Z5.frozen 0; have y1 := Z5.frozen 1; go_wp2; have hu6 := upd_set _ _ 1 (.int .u64 id) (Upd.set (S := fun k => k = w.heap.size) (w := w5) (p := ⟨w.heap.size, 0, none⟩) rfl (.string q)) rfl; have Z6 : Blk _ w.heap.size [.string q, .int .u64 id] := (Z5.set 0 (.string q)).set 1 (.int .u64 id); have k0 := Z6.at 0 rfl; have k1 := Z6.at 1 rfl; have E6 := E5.other hu6 (fun k e => by have h3 := htbh.out; omega); have hU6 := hU5.trans hu6 (fun k e hk => by omega); refine bodyPost_ret (by simp [results, Tryz.results93, go_sem, k0, k1]; rfl) rfl ?_; exact ⟨q, id, rfl, by rw [hrd.out], by rw [hrd.out]; exact E6, hU6⟩
theorem info_put3 : (Tryz.prog.info? 35).map (fun i => (i.zero, i.size, i.bytes)) = some (some (.agg #[.string ⟨#[]⟩, .int .u64 0, .string ⟨#[]⟩, .bool false, .bool false, .string ⟨#[]⟩, .int .u8 0, .int .u64 0, .string ⟨#[]⟩, .slice none 0 0, .slice none 0 0, .string ⟨#[]⟩]), 12, 160) := by kernel_rfl
theorem elem_put : ElemT Tryz.prog 22 35 12 160 := ElemT.mk' Tryz.underlying22 info_put3 rfl (by omega)
theorem info_ref3 : (Tryz.prog.info? 37).map (fun i => (i.zero, i.size, i.bytes)) = some (some (.agg #[.string ⟨#[]⟩, .int .u64 0]), 2, 24) := by kernel_rfl
theorem elem_ref : ElemT Tryz.prog 23 37 2 24 := ElemT.mk' Tryz.underlying23 info_ref3 rfl (by omega)
theorem gtA_step {α : Type} (one : RS → α × RS) (n : Nat) (r : RS) (h : r.2 = false) : gtA one (n + 1) r = ((one r).1 :: (gtA one n (one r).2).1, (gtA one n (one r).2).2) := by
  rw [gtA, if_neg (by rw [h]; simp)]
theorem gtA_bad {α : Type} (one : RS → α × RS) (n : Nat) (r : RS) (h : r.2 = true) : gtA one n r = ([], r) := by
  cases n with
  | zero => rfl
  | succ n => rw [gtA, if_pos h]
/-- What stands while puts are read. -/
structure GSt (w0 : World) (tb sb rb vb : Nat) (s : ByteArray) (w : World) (lv : Value) (L : List PtT) (rr : RS) : Prop where
  e : RdE w tb rb vb rr
  b : Blk w sb [.string s]
  o : Own w0.heap.size 35 12 ptEnc w lv L
  rd : ∀ x ∈ L, Rd (fun i => w0.heap.size ≤ i ∧ lv.ownBlock ≠ some i) w x.pr.app
  up : Upd (Only vb) w0 w
  tl : tb < w0.heap.size
  sl : sb < vb
theorem GSt.call {w0 w w' : World} {tb sb rb vb : Nat} {s : ByteArray} {lv : Value} {L : List PtT} {rr r' : RS} (h : GSt w0 tb sb rb vb s w lv L rr) (E : RdE w' tb rb vb r') (hu : Upd (Only vb) w w') : GSt w0 tb sb rb vb s w' lv L r' :=
  ⟨E, h.b.upd hu (fun e => by have := h.sl; unfold Only at e; omega), h.o.upd hu (fun i hi e => by have h1 := h.o.ge hi; have h2 := h.e.v; have h3 := h.tl; unfold Only at e; omega),
    fun x hx => (h.rd x hx).upd hu (fun i hi e => by have h1 := hi.1; have h2 := h.e.v; have h3 := h.tl; unfold Only at e; omega), h.up.only2 hu, h.tl, h.sl⟩
theorem GSt.app {w0 w w' : World} {tb sb rb vb : Nat} {s : ByteArray} {lv : Value} {L : List PtT} {rr : RS} {g cap : Nat} {t : PtT} (h : GSt w0 tb sb rb vb s w lv L rr) (hO : Own w0.heap.size 35 12 ptEnc w' (.slice (some ⟨g, 0, none⟩) (L.length + 1) cap) (L ++ [t])) (hg : w.grownBy w' lv.ownBlock) (hf : lv.ownBlock = some g ∨ g = w.heap.size)
    (ht : Rd (fun i => w0.heap.size ≤ i ∧ lv.ownBlock ≠ some i) w t.pr.app) : GSt w0 tb sb rb vb s w' (.slice (some ⟨g, 0, none⟩) (L.length + 1) cap) (L ++ [t]) rr := by
  have hu : Upd (fun i => lv.ownBlock = some i) w w' := Upd.grown hg (fun i e => e); have h3 := h.tl; have h2 := h.e.v; have h4 := h.sl
  have hrd : ∀ x : VT, Rd (fun i => w0.heap.size ≤ i ∧ lv.ownBlock ≠ some i) w x → Rd (fun i => w0.heap.size ≤ i ∧ (Value.slice (some ⟨g, 0, none⟩) (L.length + 1) cap).ownBlock ≠ some i) w' x := fun x hx =>
    (hx.weaken (Q := fun i => (w0.heap.size ≤ i ∧ (Value.slice (some ⟨g, 0, none⟩) (L.length + 1) cap).ownBlock ≠ some i) ∧ lv.ownBlock ≠ some i) (fun i hi hm => ⟨⟨hm.1, fun e => by
      have e : some g = some i := e; rcases hf with hf | hf
      · exact hm.2 (hf.trans e)
      · injection e with e; omega⟩, hm.2⟩)).upd hu (fun i hi e => hi.2 e) |>.weaken (fun i _ hm => hm.1)
  refine ⟨h.e.other hu (fun k e => by have h1 := h.o.ge e; omega), h.b.upd hu (fun e => by have h1 := h.o.ge e; omega), hO, fun x hx => ?_, h.up.trans hu (fun i e hi => by have h1 := h.o.ge e; omega), h.tl, h.sl⟩; rcases List.mem_append.1 hx with hx | hx
  · exact hrd _ (h.rd x hx)
  · rw [List.mem_singleton.1 hx]; exact hrd _ ht
theorem GSt.pure {w0 w w' : World} {tb sb rb vb : Nat} {s : ByteArray} {lv : Value} {L : List PtT} {rr : RS} (h : GSt w0 tb sb rb vb s w lv L rr) (hB : Below w.heap.size w w') : GSt w0 tb sb rb vb s w' lv L rr := h.call (h.e.pure hB) (Upd.of_below hB)
/-- What stands while names of messages are read. -/
structure HSt (w0 : World) (tb rb vb : Nat) (w : World) (lv : Value) (L : List Rf) (rr : RS) : Prop where
  e : RdE w tb rb vb rr
  o : Own w0.heap.size 37 2 rfEnc w lv L
  up : Upd (Only vb) w0 w
  tl : tb < w0.heap.size
theorem HSt.call {w0 w w' : World} {tb rb vb : Nat} {lv : Value} {L : List Rf} {rr r' : RS} (h : HSt w0 tb rb vb w lv L rr) (E : RdE w' tb rb vb r') (hu : Upd (Only vb) w w') : HSt w0 tb rb vb w' lv L r' :=
  ⟨E, h.o.upd hu (fun i hi e => by have h1 := h.o.ge hi; have h2 := h.e.v; have h3 := h.tl; unfold Only at e; omega), h.up.only2 hu, h.tl⟩
theorem HSt.app {w0 w w' : World} {tb rb vb : Nat} {lv : Value} {L : List Rf} {rr : RS} {g cap : Nat} {t : Rf} (h : HSt w0 tb rb vb w lv L rr) (hO : Own w0.heap.size 37 2 rfEnc w' (.slice (some ⟨g, 0, none⟩) (L.length + 1) cap) (L ++ [t])) (hg : w.grownBy w' lv.ownBlock) (hf : lv.ownBlock = some g ∨ g = w.heap.size) : HSt w0 tb rb vb w' (.slice (some ⟨g, 0, none⟩) (L.length + 1) cap) (L ++ [t]) rr := by
  have hu : Upd (fun i => lv.ownBlock = some i) w w' := Upd.grown hg (fun i e => e); have h3 := h.tl; have h2 := h.e.v; exact ⟨h.e.other hu (fun k e => by have h1 := h.o.ge e; omega), hO, h.up.trans hu (fun i e hi => by have h1 := h.o.ge e; omega), h.tl⟩
theorem HSt.pure {w0 w w' : World} {tb rb vb : Nat} {lv : Value} {L : List Rf} {rr : RS} (h : HSt w0 tb rb vb w lv L rr) (hB : Below w.heap.size w w') : HSt w0 tb rb vb w' lv L rr := h.call (h.e.pure hB) (Upd.of_below hB)
set_option maxRecDepth 100000 in
set_option maxHeartbeats 6400000 in
theorem getall2_any (w : World) (tb rb vb : Nat) (r : RS) (h : RdE w tb rb vb r) :
    Calls Tryz.prog 92 #[.pointer (some ⟨rb, 0, none⟩), .func (.func 93) #[] #[.pointer (some ⟨tb, 0, none⟩)]] w fun e w' => ∃ (v : Value) (L : List Rf), e = .returned v ∧ L = (gtA rdRf (nmR 1 r).1 (nmR 1 r).2).1 ∧ HSt w tb rb vb w' v L (gtA rdRf (nmR 1 r).1 (nmR 1 r).2).2 := by
  obtain ⟨⟨N, r1⟩, hn⟩ : ∃ x, nmR 1 r = x := ⟨_, rfl⟩
  have l1 := Lib.hid (show r1.1.length ≤ r.1.length by have := nmR_le 1 r; rw [hn] at this; exact this); have hN := Lib.hid (show N < 256 by have := nmR_lt 1 r; rw [hn] at this; exact this); have hnh := Lib.hid hn; rw [hn]; dsimp only; obtain ⟨FL, hFL⟩ : ∃ x, gtA rdRf N r1 = x := ⟨_, rfl⟩
  rw [hFL]; have hFLh := Lib.hid hFL; have hlt := Lib.hid (show vb < w.heap.size ∧ tb < w.heap.size from ⟨h.s.lt, h.b.lt⟩); clear hn hFL; go_enter Tryz.func92, Tryz.ntmps92; go_wp2_with (go_at_call 87; refine (pnum_rs _ rb vb r 1 h.p h.s (by unfold Wd; omega) h.l).mono ?_; rintro e w2 ⟨he, hs2, hu2⟩; simp only [hnh.out] at he hs2; subst he; have E2 := h.next hu2 hs2 l1.out); have G2 : HSt w tb rb vb w2 (.slice none 0 0) [] r1 := ⟨E2, Own.nil, hu2, hlt.out.2⟩; go_loopw [5, 6] (fun s5 s6 wr => ∃ (m : Nat) (L : List Rf) (rr : RS), s6 = .int .u64 m ∧ HSt w tb rb vb wr s5 L rr ∧ Hid (FL = (L ++ (gtA rdRf m rr).1, (gtA rdRf m rr).2)) ∧ Hid (L.length + m ≤ 255)) (fun s5 s6 _ => (intOf s6).toNat)
  case atStart => exact ⟨N, [], r1, rfl, G2, Lib.hid (by rw [hFLh.out]; rfl), Lib.hid (by have := hN.out; simp; omega)⟩
  case round =>
    obtain ⟨m, L, rr, rfl, hG, hF, hl⟩ := hrel; obtain ⟨la, lc, rfl⟩ := own_lenB hG.o; by_cases hm0 : m = 0
    · subst hm0; go_wp2; go_ret; exact ⟨_, L, rfl, by rw [hF.out]; simp [gtA], by rw [hF.out]; exact hG⟩
    have g1 : (0 : Int) < (m : Int) := by omega
    have g2 : decide ((0 : Int) < (m : Int)) = true := decide_eq_true g1; have g2n : decide (0 < m) = true := decide_eq_true (by omega); have g3 : IntKind.u64.wrap ((m : Int) - 1) = ((m - 1 : Nat) : Int) := by have := hl.out; rw [wrap_u64 _ (by omega) (by omega)]; omega
    have hm1 := Lib.hid (show m - 1 + 1 = m by omega); clear hm0; rcases rr with ⟨rr1, bad⟩; cases bad
    rotate_left 1
    · go_wp2_with (go_at_call 94; (with_reducible refine (bad_any _ rb vb rr1 true hG.e.p hG.e.s).mono ?_); rintro e _ ⟨rfl, rfl⟩); go_ret; exact ⟨_, L, rfl, by rw [hF.out, gtA_bad _ _ _ rfl]; simp, by rw [hF.out, gtA_bad _ _ _ rfl]; exact hG⟩
    · have hst := Lib.hid (show gtA rdRf m (rr1, false) = ((rdRf (rr1, false)).1 :: (gtA rdRf (m - 1) (rdRf (rr1, false)).2).1, (gtA rdRf (m - 1) (rdRf (rr1, false)).2).2) by
        have h := gtA_step rdRf (m - 1) (rr1, false) rfl
        rwa [hm1.out] at h)
      go_wp2_with (first | (go_at_call 94; (with_reducible refine (bad_any _ rb vb rr1 false hG.e.p hG.e.s).mono ?_); rintro e _ ⟨rfl, rfl⟩) | (go_at_call 93; refine (eget2_any _ tb rb vb (rr1, false) hG.e).mono ?_; rintro e w4 ⟨q, id, rfl, htp, E4, hu4⟩; have htp := Lib.hid htp; have G4 := hG.call E4 hu4; have hA4 := (Below.refl w4.heap.size w4).alloc (Nat.le_refl _) (.cells #[.string q, .int .u64 id] 37); have G5 := G4.pure hA4; have bx := Blk.new w4 [.string q, .int .u64 id] 37) | (at_builtin; refine wpList_appOne (base := w.heap.size) rfl (.tmp 18) (.tmp 21) 23 37 rfl elem_ref rfEnc_len _ L rfl G5.o _ 1 ⟨q, id⟩ (by simp [rfEnc, Value.oneCell']) rfl (fun j u hu => (bx.cell j).trans hu) (by have := hl.out; omega) (by have := hl.out; unfold maxLen; omega) G5.up.size ?_; intro g cap w6 hO6 hgr6 hf6; have G6 := G5.app hO6 hgr6 hf6)); go_roundw
      case rel => exact ⟨m - 1, _, _, by go_num, G6, Lib.hid (by rw [hF.out, hst.out, ← htp.out]; simp), Lib.hid (by have := hl.out; have := hm1.out; simp; omega)⟩
      case measure => simp [intOf]; omega
end Go.Proofs.YtlonokcaddpniaaGreatDoor
