/- Chapter 05: how the laws' arguments are opened: bytes, values. Conditions: none. Written by gen_vargs.py. (Texts joined.) -/
import Derived.Test.YtlonokcaddpniaaGreatDoorKM
import Derived.Test.YtlonokcaddpniaaGreatDoorKQ
import Derived.Test.YtlonokcaddpniaaGreatDoorKJ
import Derived.Test.YtlonokcaddpniaaGreatDoorKA
import Derived.Test.YtlonokcaddpniaaGreatDoorRows
import Derived.Lib.LaidU8
import Derived.PinnedBridge
import Derived.Lay
import Derived.OpenShut
import Derived.Deep.DeepHandedRow
set_option linter.unusedSimpArgs false
set_option linter.unusedVariables false
namespace Go.Proofs.YtlonokcaddpniaaGreatDoor
open Go.RowKit
/-- Nowhere in it are there more than a million keys or values. -/
inductive V.Fit : V → Prop
  | mk {k n : Int} {s : ByteArray} {ks : List ByteArray} {l : List V} : ks.length ≤ 1000000 → l.length ≤ 1000000 → (∀ t ∈ l, V.Fit t) → V.Fit (.mk k n s ks l)
theorem cntL_mem : ∀ (l : List V) (m : Int), 0 ≤ V.cntL l m → ∀ t ∈ l, ∃ m', m' ≤ m ∧ 0 ≤ t.cnt m'
  | [], m, _, t, ht => absurd ht (by simp)
  | x :: xs, m, h, t, ht => by
    unfold V.cntL at h; by_cases hm : m < 0
    · rw [if_pos hm] at h; omega
    · rw [if_neg hm] at h; have h1 := cntL_le xs (x.cnt m); rcases List.mem_cons.1 ht with rfl | ht
      · exact ⟨m, Int.le_refl _, by omega⟩
      · obtain ⟨m', h2, h3⟩ := cntL_mem xs (x.cnt m) h t ht; have h4 := cnt_lt x m; exact ⟨m', by omega, h3⟩
theorem fit_of (v : V) : ∀ n : Int, v.Kfit → 0 ≤ v.cnt n → n ≤ 1000000 → v.Fit := by
  induction v using V.ind with
  | h k n s ks l ih =>
    intro m hk h0 h1; unfold V.cnt at h0; have h2 := cntL_len l (m - 1) h0; have h3 := cntL_le l (m - 1)
    cases hk with
    | mk hk hs => exact .mk hk (by omega) (fun t ht => by
        obtain ⟨m', h4, h5⟩ := cntL_mem l (m - 1) h0 t ht
        exact ih t ht m' (hs t ht) h5 (by omega))
theorem fit_small {v : V} (h : 0 ≤ v.cnt 400 ∧ V.Kfit v) : v.Fit := fit_of v 400 h.2 h.1 (by omega)
/-- What stands while Copy goes over the list: the copy's block X, its keys and values of its own. -/
structure CpSt (w0 : World) (X : Nat) (k n : Int) (s : ByteArray) (w : World) (kv lv : Value) (ks : List ByteArray) (L : List VT) : Prop where
  x : Blk w X [.int .u8 k, .int .u64 n, .string s, kv, lv]
  ko : Own w0.heap.size 9 1 strEnc w kv ks
  lo : Own w0.heap.size 31 5 vEnc w lv L
  rd : ∀ x ∈ L, Rd (MP w0.heap.size kv lv) w x
  up : Upd (Only X) w0 w
  xl : X < w0.heap.size
section
variable {w0 w w' : World} {X : Nat} {k n : Int} {s : ByteArray} {kv lv : Value} {ks : List ByteArray} {L : List VT}
theorem CpSt.pure (h : CpSt w0 X k n s w kv lv ks L) (hB : Below w.heap.size w w') : CpSt w0 X k n s w' kv lv ks L :=
  ⟨h.x.pure hB, h.ko.pure hB, h.lo.pure hB, fun x hx => (h.rd x hx).pure hB, h.up.trans (Upd.of_below (S := fun _ => False) hB) (fun _ e _ => e.elim), h.xl⟩
theorem CpSt.tree {t : VT} (h : CpSt w0 X k n s w kv lv ks L) (ht : Rd (fun i => w.heap.size ≤ i) w' t) : Rd (MP w0.heap.size kv lv) w' t :=
  ht.weaken (fun i _ hi => ⟨Nat.le_trans h.up.size hi, fun e => by have := h.ko.lt e; omega, fun e => by have := h.lo.lt e; omega⟩)
theorem CpSt.app {g cap : Nat} {t : VT} (h : CpSt w0 X k n s w kv lv ks L) (hO : Own w0.heap.size 31 5 vEnc w' (.slice (some ⟨g, 0, none⟩) (L.length + 1) cap) (L ++ [t])) (hg : w.grownBy w' lv.ownBlock) (hf : lv.ownBlock = some g ∨ g = w.heap.size)
    (ht : Rd (MP w0.heap.size kv lv) w t) :
    Blk w' X [.int .u8 k, .int .u64 n, .string s, kv, lv] ∧ CpSt w0 X k n s (w'.setCell ⟨X, 4, none⟩ (.slice (some ⟨g, 0, none⟩) (L.length + 1) cap)) kv (.slice (some ⟨g, 0, none⟩) (L.length + 1) cap) ks (L ++ [t]) := by
  have h2 := h.xl; have hgb : w0.heap.size ≤ g := hO.ge rfl; have hu1 : Upd (fun i => lv.ownBlock = some i) w w' := Upd.grown hg (fun i e => e); have hs := Upd.set (S := fun i => i = X) (w := w') (p := ⟨X, 4, none⟩) rfl (.slice (some ⟨g, 0, none⟩) (L.length + 1) cap); have hx : Blk w' X [.int .u8 k, .int .u64 n, .string s, kv, lv] := h.x.upd hu1 (fun e => by have := h.lo.ge e; omega); have hu : Upd (fun i => lv.ownBlock = some i ∨ i = g ∨ i = X) w (w'.setCell ⟨X, 4, none⟩ (.slice (some ⟨g, 0, none⟩) (L.length + 1) cap)) := (hu1.mono (fun i e _ => .inl e)).trans hs (fun i e _ => .inr (.inr e))
  have hrd : ∀ x, Rd (MP w0.heap.size kv lv) w x → Rd (MP w0.heap.size kv (.slice (some ⟨g, 0, none⟩) (L.length + 1) cap)) (w'.setCell ⟨X, 4, none⟩ (.slice (some ⟨g, 0, none⟩) (L.length + 1) cap)) x := fun x hx => by
    have r := hx.weaken (Q := fun i => MP w0.heap.size kv lv i ∧ g ≠ i) (fun i hi hm => ⟨hm, fun e => by
      rcases hf with hf | hf
      · exact hm.2.2 (by rw [hf, e])
      · omega⟩)
    have r2 := r.upd hu (fun i hi e => by
      rcases e with e | e | e
      · exact hi.1.2.2 e
      · exact hi.2 e.symm
      · have := hi.1.1; omega)
    exact r2.weaken (fun i _ hi => ⟨hi.1.1, hi.1.2.1, fun e => hi.2 (by simpa [Value.ownBlock] using e)⟩)
  refine ⟨hx, hx.set 4 _, h.ko.upd hu (fun i hi e => ?_), hO.upd hs (fun i hi e => by have := hO.ge hi; omega), fun x hx => ?_, h.up.trans hu (fun i e hi => by rcases e with e | e | e; (have := h.lo.ge e; omega); omega; exact e), h.xl⟩
  · rcases e with e | e | e
    · exact own_ne h.ko h.lo (by decide) hi e
    · subst e; rcases hf with hf | hf
      · exact own_ne h.ko h.lo (by decide) hi hf
      · have := h.ko.lt hi; omega
    · have := h.ko.ge hi; omega
  · rcases List.mem_append.1 hx with hx | hx
    · exact hrd x (h.rd x hx)
    · rw [List.mem_singleton.1 hx]; exact hrd t ht
theorem CpSt.whole {S : Nat → Prop} (h : CpSt w0 X k n s w kv lv ks L) (hu : Upd S w w') (hS : ∀ i, S i → i < w0.heap.size) (hn0 : 0 ≤ n) (hn1 : n < 18446744073709551616) (h0 : 0 ≤ k) (h1 : k < 256) : Rd (fun i => w0.heap.size ≤ i) w' (.mk k n s kv lv ks L) :=
  .mk ((h.ko.upd hu (fun i hi e => by have h2 := h.ko.ge hi; have h3 := hS i e; omega)).slc strEnc_len) (fun _ i hi => h.ko.ge hi) ((h.lo.upd hu (fun i hi e => by have h2 := h.lo.ge hi; have h3 := hS i e; omega)).slc vEnc_len) (fun _ i hi => h.lo.ge hi)
    (fun x hx => ((h.rd x hx).upd hu (fun i hi e => by have h2 := hi.1; have h3 := hS i e; omega)).weaken (fun i _ hi => hi.1)) hn0 hn1 h0 h1
end
set_option maxRecDepth 100000 in
set_option maxHeartbeats 12800000 in
theorem dcopy_any (t : VT) : ∀ (P : Nat → Prop) (w : World), Rd P w t → V.Fit t.v → Calls Tryz.prog 74 #[t.arg] w fun e w' => ∃ t' : VT, e = .returned t'.arg ∧ t'.v = t.v ∧ Rd (fun i => w.heap.size ≤ i) w' t' ∧ Below w.heap.size w w' := by
  induction t using VT.ind with
  | h t ih =>
    intro P w hR hfit; have hR0 := hR.here; have hn0 := hR.n0; have hn1 := hR.n1; have hk0 := hR.k0; have hk1 := hR.k1; obtain ⟨tk, tn, ts, tka, tkc, tla, tlc, tks, tl, rfl, hK, hL, hmk, hml⟩ := hR.open; have hnk := Lib.hid (show 0 ≤ tn ∧ tn < 18446744073709551616 ∧ 0 ≤ tk ∧ tk < 256 from ⟨hn0, hn1, hk0, hk1⟩); rw [VT.arg_mk]; have ih' : ∀ x ∈ tl, ∀ (P : Nat → Prop) (w : World), Rd P w x → V.Fit x.v → Calls Tryz.prog 74 #[x.arg] w fun e w' => ∃ t' : VT, e = .returned t'.arg ∧ t'.v = x.v ∧ Rd (fun i => w.heap.size ≤ i) w' t' ∧ Below w.heap.size w w' := ih
    have ihh := Lib.hid ih'; rw [VT.v_eq] at hfit
    have hf3 : tks.length ≤ 1000000 ∧ tl.length ≤ 1000000 ∧ ∀ x ∈ tl, V.Fit x.v := by
      cases hfit with
      | mk h1 h2 h3 => exact ⟨h1, by rw [List.length_map] at h2; exact h2, fun x hx => h3 _ (List.mem_map.2 ⟨x, hx, rfl⟩)⟩
    have hfh := Lib.hid hf3; have hRh := Lib.hid hR0; clear ih ih' hR hR0 hfit hf3 hn0 hn1 hk0 hk1 hmk hml; have hB1 := (Below.refl w.heap.size w).alloc (Nat.le_refl _) (.cells #[.int .u8 tk, .int .u64 tn, .string ts, .slice tka tks.length tkc, .slice tla tl.length tlc] 31); have hB2 := hB1.alloc hB1.size (.cells #[.int .u8 0, .int .u64 0, .string ⟨#[]⟩, .slice none 0 0, .slice none 0 0] 31); have hB3 := hB2.alloc hB2.size (.cells #[.int .u8 tk, .int .u64 tn, .string ts, .slice none 0 0, .slice none 0 0] 31); have A3 := ((Blk.new w [.int .u8 tk, .int .u64 tn, .string ts, .slice tka tks.length tkc, .slice tla tl.length tlc] 31).alloc (.cells #[.int .u8 0, .int .u64 0, .string ⟨#[]⟩, .slice none 0 0, .slice none 0 0] 31)).alloc (.cells #[.int .u8 tk, .int .u64 tn, .string ts, .slice none 0 0, .slice none 0 0] 31); have C3 := (Blk.newK (w.alloc (.cells #[.int .u8 tk, .int .u64 tn, .string ts, .slice tka tks.length tkc, .slice tla tl.length tlc] 31)) [.int .u8 0, .int .u64 0, .string ⟨#[]⟩, .slice none 0 0, .slice none 0 0] 31 (w.heap.size + 1) (by simp)).alloc (.cells #[.int .u8 tk, .int .u64 tn, .string ts, .slice none 0 0, .slice none 0 0] 31); have X3 := Blk.newK ((w.alloc (.cells #[.int .u8 tk, .int .u64 tn, .string ts, .slice tka tks.length tkc, .slice tla tl.length tlc] 31)).alloc (.cells #[.int .u8 0, .int .u64 0, .string ⟨#[]⟩, .slice none 0 0, .slice none 0 0] 31)) [.int .u8 tk, .int .u64 tn, .string ts, .slice none 0 0, .slice none 0 0] 31 (w.heap.size + 1 + 1) (by simp); have hz3 := Lib.hid (show (((w.alloc (.cells #[.int .u8 tk, .int .u64 tn, .string ts, .slice tka tks.length tkc, .slice tla tl.length tlc] 31)).alloc (.cells #[.int .u8 0, .int .u64 0, .string ⟨#[]⟩, .slice none 0 0, .slice none 0 0] 31)).alloc (.cells #[.int .u8 tk, .int .u64 tn, .string ts, .slice none 0 0, .slice none 0 0] 31)).heap.size = w.heap.size + 3 by simp); have hKs := Lib.hid hK; have hLs := Lib.hid hL; have a0 := (Blk.new w [.int .u8 tk, .int .u64 tn, .string ts, .slice tka tks.length tkc, .slice tla tl.length tlc] 31).alloc (.cells #[.int .u8 0, .int .u64 0, .string ⟨#[]⟩, .slice none 0 0, .slice none 0 0] 31); have a00 := a0.at 0 rfl; have a01 := a0.at 1 rfl; have a02 := a0.at 2 rfl; have a03 := a0.at 3 rfl; have a04 := a0.at 4 rfl; have b00 := A3.at 0 rfl; have b01 := A3.at 1 rfl; have b02 := A3.at 2 rfl; have b03 := A3.at 3 rfl; have b04 := A3.at 4 rfl; have x00 := X3.at 0 rfl; have x01 := X3.at 1 rfl; have x02 := X3.at 2 rfl; have x03 := X3.at 3 rfl; have x04 := X3.at 4 rfl; clear a0; go_enter Tryz.func74, Tryz.ntmps74; go_upto_region 2 with fail; have hA3 := Lib.hid A3; have hC3 := Lib.hid C3; have hX3 := Lib.hid X3; have hB3h := Lib.hid hB3; clear hB1 hB2 hB3 A3 C3 X3 hK hL; generalize World.alloc (World.alloc (World.alloc w _) _) _ = W3 at *; go_wp2_with (at_builtin; refine wpList_app (base := W3.heap.size) rfl (.tmp 13) (.tmp 15) 28 9 rfl elem_strs strEnc_len strEnc_one _ ([] : List ByteArray) rfl Own.nil _ tks rfl (hKs.out.pure hB3h.out) (by have := hfh.out.1; unfold maxLen; simp; omega) (by have := hfh.out.1; simp; omega) (Nat.le_refl _) ?_; intro kv w4 hO4 hgr4 hfr4 hsh4; rw [List.nil_append] at hO4; obtain ⟨ka4, kc4, rfl⟩ := own_lenB hO4; have hB4 := (Below.refl W3.heap.size W3).grown hgr4 (Nat.le_refl _) (fun j e => by cases e); have X4 := hX3.out.pure hB4; have x4 := X4.at 3 rfl; have xf4 := X4.frozen 3)
    have hM := Lib.hid (show CpSt W3 (w.heap.size + 1 + 1) tk tn ts (w4.setCell ⟨w.heap.size + 1 + 1, 3, none⟩ (.slice ka4 tks.length kc4)) (.slice ka4 tks.length kc4) (.slice none 0 0) tks [] from
      ⟨X4.set 3 _, hO4.low _ _ _ (by have := hz3.out; omega), Own.nil, fun x hx => absurd hx (by simp), (Upd.of_below hB4).trans (Upd.set (S := Only (w.heap.size + 1 + 1)) (p := ⟨w.heap.size + 1 + 1, 3, none⟩) rfl _) (fun i e _ => e), by have := hz3.out; omega⟩)
    clear a00 a01 a02 a03 a04 b00 b01 b02 b03 b04 x00 x01 x02 x03 x04 x4 xf4 X4 hB4 hO4 hgr4 hfr4 hsh4; go_loopw [4] (fun s4 wr => ∃ (k : Nat) (lv : Value) (L : List VT), k ≤ tl.length ∧ s4 = .int .i64 k ∧ Hid (CpSt W3 (w.heap.size + 1 + 1) tk tn ts wr (.slice ka4 tks.length kc4) lv tks L) ∧ Hid (L.length = k ∧ L.map VT.v = (tl.take k).map VT.v)) (fun s4 _ => tl.length - (intOf s4).toNat)
    case atStart => exact ⟨0, _, [], by omega, rfl, hM, Lib.hid ⟨rfl, by simp⟩⟩
    case round =>
      clear hM; obtain ⟨k, lv, L, hk, rfl, hMh, hlen⟩ := hrel; have hM := hMh.out; obtain ⟨la4, lc4, rfl⟩ := own_lenB hM.lo; have hAr := hA3.out.upd hM.up (fun e => by unfold Only at e; omega); have hRr := (hRh.out.bel hB3h.out (Nat.le_refl _)).upd hM.up (fun b hb e => by unfold Only at e; omega); have a4 := hAr.at 4 rfl; have x4 := hM.x.at 4 rfl; by_cases hlt : k < tl.length
      · have h1 : (k : Int) < (tl.length : Int) := by omega
        have hml : (tl.length : Int) ≤ 1000000 := by have := hfh.out.2.1; omega
        have hLr : Slc vEnc 5 wr (.slice tla tl.length tlc) tl := hRr.lv; obtain ⟨g0, off, rfl⟩ := hLr.addrB hlt; have hRk := hRr.sub tl[k] (List.getElem_mem hlt); obtain ⟨xk, xn, xs, xka, xkl, xkc, xla, xll, xlc, xks, xl, hx, q0, q1, q2, q3, q4⟩ := v_elem hLr hlt hRk; have htk := Lib.hid (List.take_succ_eq_append_getElem hlt); have hfk := hfh.out.2.2 tl[k] (List.getElem_mem hlt); have hi := fun (u : World) (hR : Rd (· < w.heap.size) u tl[k]) => ihh.out tl[k] (List.getElem_mem hlt) _ u hR hfk
        obtain ⟨xv, hxv⟩ : ∃ xv, tl[k].v = xv := ⟨_, rfl⟩
        have hxvh := Lib.hid hxv; rw [hxv] at hi hfk
        have hNo := Lib.hid (show ∀ i, (Value.slice la4 L.length lc4).ownBlock = some i ∨ i = w.heap.size + 1 + 1 → ¬ i < w.heap.size + 1 from fun i e => by
          rcases e with e | e
          · have := hM.lo.ge e; have := hz3.out; omega
          · omega)
        have hall := Lib.hid (fun (u : World) (hu : Upd (fun i => (Value.slice la4 L.length lc4).ownBlock = some i ∨ i = w.heap.size + 1 + 1) wr u) => show Blk u w.heap.size [.int .u8 tk, .int .u64 tn, .string ts, .slice tka tks.length tkc, .slice (some ⟨g0, off, none⟩) tl.length tlc] ∧ Rd (· < w.heap.size) u (VT.mk tk tn ts (.slice tka tks.length tkc) (.slice (some ⟨g0, off, none⟩) tl.length tlc) tks tl) from
          ⟨hAr.upd hu (fun e => hNo.out _ e (by omega)), hRr.upd hu (fun b hb e => hNo.out _ e (by omega))⟩)
        have hcx := Lib.hid (fun (u : World) (hu : Upd (fun i => (Value.slice la4 L.length lc4).ownBlock = some i ∨ i = w.heap.size + 1 + 1) wr u) => show u.cell? ⟨g0, off + k * 5, none⟩ = some (.int .u8 xk) ∧ u.cell? ⟨g0, off + k * 5 + 1, none⟩ = some (.int .u64 xn) ∧ u.cell? ⟨g0, off + k * 5 + 2, none⟩ = some (.string xs) ∧ u.cell? ⟨g0, off + k * 5 + 3, none⟩ = some (.slice xka xkl xkc) ∧ u.cell? ⟨g0, off + k * 5 + 4, none⟩ = some (.slice xla xll xlc) by
          have h9 : Slc vEnc 5 u (.slice (some ⟨g0, off, none⟩) tl.length tlc) tl := (hall.out u hu).2.lv; have h8 := v_cells h9 hlt
          rw [hx] at h8; exact h8)
        have hrk := Lib.hid (fun (u : World) (hu : Upd (fun i => (Value.slice la4 L.length lc4).ownBlock = some i ∨ i = w.heap.size + 1 + 1) wr u) => show Calls Tryz.prog 74 #[VT.arg (.mk xk xn xs (.slice xka xkl xkc) (.slice xla xll xlc) xks xl)] u fun e w' => ∃ t' : VT, e = .returned t'.arg ∧ t'.v = xv ∧ Rd (fun i => u.heap.size ≤ i) w' t' ∧ Below u.heap.size u w' by
          rw [← hx]; exact hi u ((hall.out u hu).2.sub tl[k] (List.getElem_mem hlt)))
        simp only [VT.arg_mk] at hrk; have hLl := Lib.hid (show L.length < 1000000 by have := hlen.out.1; have := hfh.out.2.1; omega); have hM0 := hM.pure (below_refl_dr wr); have mx0 := hM0.x.at 4 rfl; have hMhh := Lib.hid hM; clear hi hfk hRk hx hxv hLr hRr hMh hM; go_wp2_with fail; have hb := ((Upd.refl (fun i => (Value.slice la4 L.length lc4).ownBlock = some i ∨ i = w.heap.size + 1 + 1) wr).drew); refine wp_region_held_drew (S := fun u => Upd (fun i => (Value.slice la4 L.length lc4).ownBlock = some i ∨ i = w.heap.size + 1 + 1) wr u) (by kernel_rfl) hb (fun hHeld => ?_); refine takeY 0 25 rfl rfl (v := ?_) ?_ hHeld ?_
        rotate_left 1
        · (intro u hSw; (try dsimp only at hSw); clear hSw; go_simp; (try with_reducible rfl))
        (try simp only [Act.put, lsT, lsZ, lsS]); refine takeY 2 27 rfl rfl (v := ?_) ?_ hHeld ?_
        rotate_left 1
        · (intro u hSw; (try dsimp only at hSw); clear hSw; go_simp; (try with_reducible rfl))
        (try simp only [Act.put, lsT, lsZ, lsS]); refine takeY 3 28 rfl rfl (v := ?_) ?_ hHeld ?_
        rotate_left 1
        · (intro u hSw; (try dsimp only at hSw); have q := (hall.out u hSw).1.at 4 rfl; clear hSw; go_simp; (try with_reducible rfl))
        (try simp only [Act.put, lsT, lsZ, lsS]); refine takeY 4 29 rfl rfl (v := ?_) ?_ hHeld ?_
        rotate_left 1
        · (intro u hSw; (try dsimp only at hSw); clear hSw; go_simp; (try with_reducible rfl))
        (try simp only [Act.put, lsT, lsZ, lsS]); refine takeY 5 30 rfl rfl (v := ?_) ?_ hHeld ?_
        rotate_left 1
        · (intro u hSw; (try dsimp only at hSw); clear hSw; go_simp; (try with_reducible rfl))
        (try simp only [Act.put, lsT, lsZ, lsS]); refine takeY 6 31 rfl rfl (v := ?_) ?_ hHeld ?_
        rotate_left 1
        · (intro u hSw; (try dsimp only at hSw); obtain ⟨q0, q1, q2, q3, q4⟩ := hcx.out u hSw; clear hSw; go_simp; (try with_reducible rfl))
        (try simp only [Act.put, lsT, lsZ, lsS]); refine wpAnyH_ready (rs := [1, 7]) (by kernel_rfl) (by simp) ?_; refine (AllReadyH.cons rfl (fun K hK => ?_) (AllReadyH.cons rfl (fun K hK => ?_) AllReadyH.nil))
        · go_simp; refine hK.out _ _ hb (fun hHeld => ?_); clear hK K; (try simp only [Act.put, lsT, lsZ, lsS]); refine wpAnyH_ready (rs := [7]) (by kernel_rfl) (by simp) ?_; refine (AllReadyH.cons rfl (fun K hK => ?_) AllReadyH.nil); go_simp; go_at_call 74; refine (hrk.out _ hb).mono ?_; rintro e w1 ⟨t1, he, htv, htR, hB1⟩; have hM1 := hM0.pure hB1; have ht1 := hM0.tree htR; obtain ⟨uk, un, us, uka, ukc, ula, ulc, uks, ul, rfl, -⟩ := htR.open; rw [VT.arg_mk] at he; subst he; have htvh := Lib.hid htv; clear htv; have hb := hb.trans (Upd.of_below (S := fun _ => False) hB1) (fun _ e _ => e.elim); have mx1 := hM1.x.at 4 rfl; refine hK.out _ _ hb (fun hHeld => ?_); clear hK K; (try simp only [Act.put, lsT, lsZ, lsS]); refine wpAnyH_ready (rs := [8]) (by kernel_rfl) (by simp) ?_; refine (AllReadyH.cons rfl (fun K hK => ?_) AllReadyH.nil); go_simp; have hM2 := hM1.pure ((Below.refl w1.heap.size w1).alloc (Nat.le_refl _) (.cells #[.int .u8 uk, .int .u64 un, .string us, .slice uka uks.length ukc, .slice ula ul.length ulc] 31)); have bs := Blk.new w1 [.int .u8 uk, .int .u64 un, .string us, .slice uka uks.length ukc, .slice ula ul.length ulc] 31; have ht2 := ht1.pure ((Below.refl w1.heap.size w1).alloc (Nat.le_refl _) (.cells #[.int .u8 uk, .int .u64 un, .string us, .slice uka uks.length ukc, .slice ula ul.length ulc] 31)); have hb := hb.trans (Upd.of_below (S := fun _ => False) ((Below.refl w1.heap.size w1).alloc (Nat.le_refl _) (.cells #[.int .u8 uk, .int .u64 un, .string us, .slice uka uks.length ukc, .slice ula ul.length ulc] 31))) (fun _ e _ => e.elim); have mx2 := hM2.x.at 4 rfl; refine hK.out _ _ hb (fun hHeld => ?_); clear hK K; (try simp only [Act.put, lsT, lsZ, lsS]); refine wpAnyH_ready (rs := [9]) (by kernel_rfl) (by simp) ?_; refine (AllReadyH.cons rfl (fun K hK => ?_) AllReadyH.nil); refine step_of_list rfl (wpList_appOne (base := W3.heap.size) rfl (.tmp 26) (.tmp 33) 29 31 rfl elem_val vEnc_len _ L rfl hM2.lo _ 1 (.mk uk un us (.slice uka uks.length ukc) (.slice ula ul.length ulc) uks ul) (by simp [vEnc, VT.k, VT.n, VT.s, VT.kv, VT.lv, Value.oneCell']) rfl (fun j u hu => (bs.cell j).trans hu) (by have := hLl.out; omega) (by have := hLl.out; unfold maxLen; omega) hM2.up.size ?_); intro g cap w3 hO3 hgr3 hf3; refine ⟨rfl, ?_⟩; obtain ⟨hx3, hM5⟩ := hM2.app hO3 hgr3 hf3 ht2; have my := hx3.at 4 rfl; have mz := hx3.frozen 4; have hb := hb.trans (Upd.grown (S := fun i => (Value.slice la4 L.length lc4).ownBlock = some i) hgr3 (fun i e => e)) (fun i e _ => Or.inl e); refine hK.out _ _ hb (fun hHeld => ?_); clear hK K; (try simp only [Act.put, lsT, lsZ, lsS]); refine takeY 10 35 rfl rfl (v := ?_) ?_ hHeld ?_
          rotate_left 1
          · (intro u hSw; (try dsimp only at hSw); clear hSw; go_simp; (try with_reducible rfl))
          (try simp only [Act.put, lsT, lsZ, lsS]); refine wpAnyH_ready (rs := [11]) (by kernel_rfl) (by simp) ?_; refine (AllReadyH.cons rfl (fun K hK => ?_) AllReadyH.nil); go_simp; have hb := hb.trans (Upd.set (S := fun i => i = w.heap.size + 1 + 1) (p := ⟨w.heap.size + 1 + 1, 4, none⟩) rfl (.slice (some ⟨g, 0, none⟩) (L.length + 1) cap)) (fun i e _ => Or.inr e); refine hK.out _ _ hb (fun hHeld => ?_); clear hK K; (try simp only [Act.put, lsT, lsZ, lsS]); refine wpAnyH_done (by kernel_rfl) ?_ _; go_wp2; go_roundw
          case rel => exact ⟨k + 1, _, _, by omega, by go_num, Lib.hid hM5, Lib.hid ⟨by have := hlen.out.1; simp; omega, by rw [htk.out, List.map_append, List.map_append, hlen.out.2, List.map_cons, List.map_cons, htvh.out, hxvh.out]⟩⟩
          case measure => simp [intOf]; omega
        · go_simp; go_at_call 74; refine (hrk.out _ hb).mono ?_; rintro e w1 ⟨t1, he, htv, htR, hB1⟩; have hM1 := hM0.pure hB1; have ht1 := hM0.tree htR; obtain ⟨uk, un, us, uka, ukc, ula, ulc, uks, ul, rfl, -⟩ := htR.open; rw [VT.arg_mk] at he; subst he; have htvh := Lib.hid htv; clear htv; have hb := hb.trans (Upd.of_below (S := fun _ => False) hB1) (fun _ e _ => e.elim); have mx1 := hM1.x.at 4 rfl; refine hK.out _ _ hb (fun hHeld => ?_); clear hK K; (try simp only [Act.put, lsT, lsZ, lsS]); refine wpAnyH_ready (rs := [1, 8]) (by kernel_rfl) (by simp) ?_; refine (AllReadyH.cons rfl (fun K hK => ?_) (AllReadyH.cons rfl (fun K hK => ?_) AllReadyH.nil))
          focus
            go_simp; refine hK.out _ _ hb (fun hHeld => ?_); clear hK K; (try simp only [Act.put, lsT, lsZ, lsS]); refine wpAnyH_ready (rs := [8]) (by kernel_rfl) (by simp) ?_; refine (AllReadyH.cons rfl (fun K hK => ?_) AllReadyH.nil); go_simp; have hM2 := hM1.pure ((Below.refl w1.heap.size w1).alloc (Nat.le_refl _) (.cells #[.int .u8 uk, .int .u64 un, .string us, .slice uka uks.length ukc, .slice ula ul.length ulc] 31)); have bs := Blk.new w1 [.int .u8 uk, .int .u64 un, .string us, .slice uka uks.length ukc, .slice ula ul.length ulc] 31; have ht2 := ht1.pure ((Below.refl w1.heap.size w1).alloc (Nat.le_refl _) (.cells #[.int .u8 uk, .int .u64 un, .string us, .slice uka uks.length ukc, .slice ula ul.length ulc] 31)); have hb := hb.trans (Upd.of_below (S := fun _ => False) ((Below.refl w1.heap.size w1).alloc (Nat.le_refl _) (.cells #[.int .u8 uk, .int .u64 un, .string us, .slice uka uks.length ukc, .slice ula ul.length ulc] 31))) (fun _ e _ => e.elim); have mx2 := hM2.x.at 4 rfl
          rotate_left 1
          focus
            go_simp; have hM2 := hM1.pure ((Below.refl w1.heap.size w1).alloc (Nat.le_refl _) (.cells #[.int .u8 uk, .int .u64 un, .string us, .slice uka uks.length ukc, .slice ula ul.length ulc] 31)); have bs := Blk.new w1 [.int .u8 uk, .int .u64 un, .string us, .slice uka uks.length ukc, .slice ula ul.length ulc] 31; have ht2 := ht1.pure ((Below.refl w1.heap.size w1).alloc (Nat.le_refl _) (.cells #[.int .u8 uk, .int .u64 un, .string us, .slice uka uks.length ukc, .slice ula ul.length ulc] 31)); have hb := hb.trans (Upd.of_below (S := fun _ => False) ((Below.refl w1.heap.size w1).alloc (Nat.le_refl _) (.cells #[.int .u8 uk, .int .u64 un, .string us, .slice uka uks.length ukc, .slice ula ul.length ulc] 31))) (fun _ e _ => e.elim); have mx2 := hM2.x.at 4 rfl; refine hK.out _ _ hb (fun hHeld => ?_); clear hK K; (try simp only [Act.put, lsT, lsZ, lsS]); refine wpAnyH_ready (rs := [1]) (by kernel_rfl) (by simp) ?_; refine (AllReadyH.cons rfl (fun K hK => ?_) AllReadyH.nil); go_simp
          rotate_left 1
          all_goals
            refine hK.out _ _ hb (fun hHeld => ?_); clear hK K; (try simp only [Act.put, lsT, lsZ, lsS]); refine wpAnyH_ready (rs := [9]) (by kernel_rfl) (by simp) ?_; refine (AllReadyH.cons rfl (fun K hK => ?_) AllReadyH.nil); refine step_of_list rfl (wpList_appOne (base := W3.heap.size) rfl (.tmp 26) (.tmp 33) 29 31 rfl elem_val vEnc_len _ L rfl hM2.lo _ 1 (.mk uk un us (.slice uka uks.length ukc) (.slice ula ul.length ulc) uks ul) (by simp [vEnc, VT.k, VT.n, VT.s, VT.kv, VT.lv, Value.oneCell']) rfl (fun j u hu => (bs.cell j).trans hu) (by have := hLl.out; omega) (by have := hLl.out; unfold maxLen; omega) hM2.up.size ?_); intro g cap w3 hO3 hgr3 hf3; refine ⟨rfl, ?_⟩; obtain ⟨hx3, hM5⟩ := hM2.app hO3 hgr3 hf3 ht2; have my := hx3.at 4 rfl; have mz := hx3.frozen 4; have hb := hb.trans (Upd.grown (S := fun i => (Value.slice la4 L.length lc4).ownBlock = some i) hgr3 (fun i e => e)) (fun i e _ => Or.inl e); refine hK.out _ _ hb (fun hHeld => ?_); clear hK K; (try simp only [Act.put, lsT, lsZ, lsS]); refine takeY 10 35 rfl rfl (v := ?_) ?_ hHeld ?_
            rotate_left 1
            · (intro u hSw; (try dsimp only at hSw); clear hSw; go_simp; (try with_reducible rfl))
            (try simp only [Act.put, lsT, lsZ, lsS]); refine wpAnyH_ready (rs := [11]) (by kernel_rfl) (by simp) ?_; refine (AllReadyH.cons rfl (fun K hK => ?_) AllReadyH.nil); go_simp; have hb := hb.trans (Upd.set (S := fun i => i = w.heap.size + 1 + 1) (p := ⟨w.heap.size + 1 + 1, 4, none⟩) rfl (.slice (some ⟨g, 0, none⟩) (L.length + 1) cap)) (fun i e _ => Or.inr e); refine hK.out _ _ hb (fun hHeld => ?_); clear hK K; (try simp only [Act.put, lsT, lsZ, lsS]); refine wpAnyH_done (by kernel_rfl) ?_ _; go_wp2; go_roundw
            case rel => exact ⟨k + 1, _, _, by omega, by go_num, Lib.hid hM5, Lib.hid ⟨by have := hlen.out.1; simp; omega, by rw [htk.out, List.map_append, List.map_append, hlen.out.2, List.map_cons, List.map_cons, htvh.out, hxvh.out]⟩⟩
            case measure => simp [intOf]; omega
      · obtain rfl : k = tl.length := by omega
        have c := hC3.out.upd hM.up (fun e => by unfold Only at e; omega); have xx := hM.x; have c0 := c.at 0 rfl; have z0 := c.frozen 0; have y0 := xx.at 0 rfl; have c1 := c.at 1 rfl; have z1 := c.frozen 1; have y1 := xx.at 1 rfl; have c2 := c.at 2 rfl; have z2 := c.frozen 2; have y2 := xx.at 2 rfl; have c3 := c.at 3 rfl; have z3 := c.frozen 3; have y3 := xx.at 3 rfl; have c4 := c.at 4 rfl; have z4 := c.frozen 4; have y4 := xx.at 4 rfl; have hMz := Lib.hid hM; have ch := Lib.hid c; clear c; clear x4 hMh hM hAr hRr xx hlt hk; go_wp2; have aF := ch.out.fresh5 (.int .u8 tk) (.int .u64 tn) (.string ts) (.slice ka4 tks.length kc4) (.slice la4 L.length lc4); have k0 := aF.at 0 rfl; have k1 := aF.at 1 rfl; have k2 := aF.at 2 rfl; have k3 := aF.at 3 rfl; have k4 := aF.at 4 rfl; refine bodyPost_ret (by simp [results, Tryz.results74, go_sem, k0, k1, k2, k3, k4]; rfl) rfl ?_; have hu5 := Upd.at5 wr (w.heap.size + 1) (.int .u8 tk) (.int .u64 tn) (.string ts) (.slice ka4 tks.length kc4) (.slice la4 L.length lc4); refine ⟨.mk tk tn ts (.slice ka4 tks.length kc4) (.slice la4 L.length lc4) tks L, rfl, ?_, ?_, ?_⟩
        · rw [VT.v_eq, VT.v_eq]; show V.mk tk tn ts tks (L.map VT.v) = V.mk tk tn ts tks (tl.map VT.v)
          rw [hlen.out.2, List.take_length]
        · exact (hMz.out.whole hu5 (fun i e => by have := hz3.out; omega) hnk.out.1 hnk.out.2.1 hnk.out.2.2.1 hnk.out.2.2.2).weaken (fun i _ hi => by have := hz3.out; omega)
        · exact (hB3h.out.trans (hMz.out.up.below hB3h.out.size (fun i e => by unfold Only at e; omega))).trans (hu5.below (by have := hMz.out.up.size; have := hB3h.out.size; omega) (fun i e => by omega))
end Go.Proofs.YtlonokcaddpniaaGreatDoor
namespace Go.Proofs.YtlonokcaddpniaaGreatDoor
open Go.ChangeShapes Go.WideShapes Go.ChangeAt Go.RowKit
set_option maxRecDepth 100000
section
variable {H : Type} {enc : TypeId × Value → H} {P : Program} {w : World} {base : Nat} {spare : Nat → Bool} {held : Bool}
theorem open_slcF {α : Type} {ρ : α → List Value} {Wf : α → Prop} {m : Nat} {t e : TypeId} {v : Value} (ht : P.underlying t = some (.slice e)) (hc : P.cellsOf e = m) (hm : 0 < m)
    {fuel : Nat} {z : DataW H × List MemPlace} (hel : ∀ n cs y, n < fuel → DataW.trod enc P w base spare held n e cs = some y → ∃ x, cs = ρ x ∧ Wf x)
    (hsl : ∃ a len cap, v = .slice a len cap) (hf : DataW.trod enc P w base spare held fuel t [v] = some z) :
    ∃ L : List α, Slc ρ m w v L ∧ ∀ x ∈ L, Wf x := by
  rcases DataW.trod_slice ht hf with ⟨hcs, hx⟩ | ⟨a, len, cap, elems, rest, n, hfu, hcs, hx, hb, hl, hmx, hlen, hi, -⟩
  · refine ⟨[], .inl ⟨none, 0, ?_, by simp, rfl⟩, by simp⟩; obtain ⟨a, l, c, rfl⟩ := hsl; simpa [Value.cells] using hcs
  · have hv : v = .slice (some a) len cap := by obtain ⟨a, l, c, rfl⟩ := hsl; simpa [Value.cells] using hcs
    subst hv
    have key : ∀ i, i < len → ∃ x, Wf x ∧ w.cells? base (a.add (i * m)) m = some (ρ x) := by
      intro i hil
      obtain ⟨cs', h1, h2⟩ : ∃ cs', w.cells? base (a.add (i * P.cellsOf e)) (P.cellsOf e) = some cs' ∧ DataW.trod enc P w base spare held n e cs' = some elems[i] := by
        have := hi i hil; rw [List.getElem?_eq_getElem (by omega)] at this; exact Option.bind_eq_some_iff.1 this
      obtain ⟨x, rfl, hw⟩ := hel n _ _ (by omega) h2; rw [hc] at h1; exact ⟨x, hw, h1⟩
    by_cases h0 : len = 0
    · subst h0; exact ⟨[], .inl ⟨some a, cap, rfl, hmx, rfl⟩, by simp⟩
    have hspot : a.spot = none := by
      obtain ⟨x, _, h1⟩ := key 0 (by omega); obtain ⟨_, hlen, hcell⟩ := World.cells?_some h1; have h2 := hcell 0 (by omega); simp only [Nat.zero_mul] at h2; have e1 : (a.add 0).add 0 = a := by simp [Addr.add]
      rw [e1] at h2; have h3 : 0 < (ρ x).length := by omega
      rw [List.getElem?_eq_getElem h3] at h2; exact World.cell?_spot h2
    haveI : Inhabited α := ⟨(key 0 (by omega)).choose⟩
    obtain ⟨f, hf'⟩ := Deep.choose_lt key; refine ⟨(List.range len).map f, .inr ⟨a.block, a.off, cap, ?_, by simpa using hl, hmx, ?_⟩, ?_⟩
    · have : a = ⟨a.block, a.off, none⟩ := by obtain ⟨b, o, s⟩ := a; simp_all
      simp [← this]
    · intro i hil j u hu; simp only [List.length_map, List.length_range] at hil; simp only [List.getElem_map, List.getElem_range] at hu; obtain ⟨_, h1⟩ := hf' i hil; obtain ⟨_, hlen, hcell⟩ := World.cells?_some h1; have hj : j < m := by rw [← hlen]; exact (List.getElem?_eq_some_iff.1 hu).1
      have h2 := hcell j hj; rw [hu, Deep.add_add, add_eq a hspot, ← Nat.add_assoc] at h2; exact h2
    · intro x hx; rw [List.mem_map] at hx; obtain ⟨i, hi', rfl⟩ := hx; exact (hf' i (List.mem_range.1 hi')).1
end
section
variable {H : Type} {enc : TypeId × Value → H} {w : World} {base : Nat} {spare : Nat → Bool} {held : Bool}
theorem slice_shape {t e : TypeId} {n : Nat} {c : Value} {y : DataW H × List MemPlace} (ht : Tryz.prog.underlying t = some (.slice e)) (h : DataW.trod enc Tryz.prog w base spare held n t [c] = some y) : ∃ a l cap, c = .slice a l cap := by
  rcases DataW.trod_slice ht h with ⟨hcs, _⟩ | ⟨a, len, cap, _, _, _, _, hcs, _⟩
  · simp only [List.cons.injEq, and_true] at hcs; exact ⟨_, _, _, hcs⟩
  · simp only [List.cons.injEq, and_true] at hcs; exact ⟨_, _, _, hcs⟩
theorem struct_fields {t : TypeId} {fs : Array Field} {n : Nat} {cs : List Value} {y : DataW H × List MemPlace} (ht : Tryz.prog.underlying t = some (.struct fs)) (h : DataW.trod enc Tryz.prog w base spare held n t cs = some y) :
    cs.length = Tryz.prog.cellsOf t ∧ ∃ m, n = m + 1 ∧ ∀ (i : Nat) (f : Field), fs[i]? = some f → ∃ z, DataW.trod enc Tryz.prog w base spare held m f.type ((cs.drop f.offset).take (Tryz.prog.cellsOf f.type)) = some z := by
  obtain ⟨xs, n', rfl, -, hl, hlen, hf⟩ := DataW.trod_struct ht h; refine ⟨hl, n', rfl, fun i f hi => ?_⟩; have hlt : i < xs.length := by rw [hlen]; exact (Array.getElem?_eq_some_iff.1 hi).1
  have h1 := hf i f hi; rw [List.getElem?_eq_getElem hlt] at h1; exact ⟨_, h1⟩
/-- A value that came in. -/
theorem open_val : ∀ (fuel : Nat) (cs : List Value) (y : DataW H × List MemPlace), DataW.trod enc Tryz.prog w base spare held fuel 31 cs = some y → ∃ t : VT, cs = vEnc t ∧ Rd (fun _ => True) w t := by
  intro fuel
  induction fuel using Nat.strongRecOn with
  | ind fuel ih =>
    intro cs y h; obtain ⟨hl, n, rfl, g⟩ := struct_fields Tryz.underlying31 h; have hc : Tryz.prog.cellsOf 31 = 5 := by kernel_rfl
    have c0 : Tryz.prog.cellsOf 27 = 1 := by kernel_rfl
    have c1 : Tryz.prog.cellsOf 26 = 1 := by kernel_rfl
    have c2 : Tryz.prog.cellsOf 9 = 1 := by kernel_rfl
    have c3 : Tryz.prog.cellsOf 28 = 1 := by kernel_rfl
    have c4 : Tryz.prog.cellsOf 29 = 1 := by kernel_rfl
    rw [hc] at hl
    match cs, hl with
    | [a0, a1, a2, a3, a4], _ =>
      obtain ⟨k, rfl, wk⟩ := field_int Tryz.underlying27 c0 (o := 0) (c := a0) rfl (g 0 _ rfl); obtain ⟨m, rfl, wm⟩ := field_int Tryz.underlying26 c1 (o := 1) (c := a1) rfl (g 1 _ rfl); obtain ⟨s, rfl, ws⟩ := field_string Tryz.underlying9 c2 (o := 2) (c := a2) rfl (g 2 _ rfl); obtain ⟨z3, h3⟩ := g 3 _ rfl; obtain ⟨z4, h4⟩ := g 4 _ rfl; have h3' : DataW.trod enc Tryz.prog w base spare held n 28 (([.int .u8 k, .int .u64 m, .string s, a3, a4].drop 3).take (Tryz.prog.cellsOf 28)) = some z3 := h3; have h4' : DataW.trod enc Tryz.prog w base spare held n 29 (([.int .u8 k, .int .u64 m, .string s, a3, a4].drop 4).take (Tryz.prog.cellsOf 29)) = some z4 := h4; rw [c3] at h3'; rw [c4] at h4'; simp only [List.drop_succ_cons, List.drop_zero, List.take_succ_cons, List.take_zero] at h3' h4'
      obtain ⟨ks, hK, -⟩ := open_slcF (ρ := strEnc) (Wf := fun _ => True) (m := 1) Tryz.underlying28 c2 (by omega) (fun n cs y _ hy => by
        obtain ⟨x, rfl, _, _⟩ := DataW.trod_string Tryz.underlying9 hy
        exact ⟨x, rfl, trivial⟩) (slice_shape Tryz.underlying28 h3') h3'
      obtain ⟨L, hL, hW⟩ := open_slcF (ρ := vEnc) (Wf := fun t => Rd (fun _ => True) w t) (m := 5) Tryz.underlying29 hc (by omega) (fun n' cs y hn hy => ih n' (by omega) cs y hy) (slice_shape Tryz.underlying29 h4') h4'; have bk := bounds_u8 wk
      have bm : 0 ≤ m ∧ m < 18446744073709551616 := by
        simp [Lit.wf, IntKind.min, IntKind.max, IntKind.signed, IntKind.bits] at wm; omega
      exact ⟨.mk k m s a3 a4 ks L, rfl, .mk hK (fun _ _ _ => trivial) hL (fun _ _ _ => trivial) hW bm.1 bm.2 bk.1 (by have := bk.2; show k < 256; omega)⟩
end
/-- The variables that are laid. -/
def LAID : List (String × DataW Unit) := [("unicode/utf8.acceptRanges", Rows.laid_unicode_utf8_acceptRanges), ("unicode/utf8.first", Rows.laid_unicode_utf8_first)]
theorem accept_eq : Rows.laid_unicode_utf8_acceptRanges = Lib.acceptData := by kernel_rfl
theorem tb_of_laid {w : World} (hL : laidMet Tryz.prog LAID w) : Tb w :=
  utf8Tabs_of_reads { u8lays with } ⟨by kernel_rfl, by kernel_rfl, by kernel_rfl, by kernel_rfl, by kernel_rfl, by kernel_rfl, by kernel_rfl⟩ (Pinned.utf8First_eq ▸ Lib.laidMet.reads hL (.tail _ (.head _))) (accept_eq ▸ Lib.laidMet.reads hL (.head _))
end Go.Proofs.YtlonokcaddpniaaGreatDoor
