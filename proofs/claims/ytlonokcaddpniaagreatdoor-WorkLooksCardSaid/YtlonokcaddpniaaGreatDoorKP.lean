/- Chapter 05: how the laws' arguments are opened: bytes, values. Conditions: none. Written by gen_vargs.py. (Texts joined.) -/
import Derived.Test.YtlonokcaddpniaaGreatDoorKM
import Derived.Test.YtlonokcaddpniaaGreatDoorKQ
import Derived.Test.YtlonokcaddpniaaGreatDoorKJ
import Derived.Test.YtlonokcaddpniaaGreatDoorKA
import Derived.Test.YtlonokcaddpniaaGreatDoorRows
import Derived.Lib.LaidU8
import Derived.PinnedBridge
import Derived.Lay
import Derived.OpenShut
import Derived.Deep.DeepHandedRow
set_option linter.unusedSimpArgs false
set_option linter.unusedVariables false
namespace Go.Proofs.YtlonokcaddpniaaGreatDoor
open Go.RowKit
/-- Nowhere in it are there more than a million keys or values. -/
inductive V.Fit : V → Prop
  | mk {k n : Int} {s : ByteArray} {ks : List ByteArray} {l : List V} : ks.length ≤ 1000000 → l.length ≤ 1000000 → (∀ t ∈ l, V.Fit t) → V.Fit (.mk k n s ks l)
theorem cntL_mem : ∀ (l : List V) (m : Int), 0 ≤ V.cntL l m → ∀ t ∈ l, ∃ m', m' ≤ m ∧ 0 ≤ t.cnt m'
  | [], m, _, t, ht => absurd ht (by simp)
  | x :: xs, m, h, t, ht => by
    unfold V.cntL at h; by_cases hm : m < 0
    · rw [if_pos hm] at h; omega
    · rw [if_neg hm] at h; have h1 := cntL_le xs (x.cnt m); rcases List.mem_cons.1 ht with rfl | ht
      · exact ⟨m, Int.le_refl _, by omega⟩
      · obtain ⟨m', h2, h3⟩ := cntL_mem xs (x.cnt m) h t ht; have h4 := cnt_lt x m; exact ⟨m', by omega, h3⟩
theorem fit_of (v : V) : ∀ n : Int, v.Kfit → 0 ≤ v.cnt n → n ≤ 1000000 → v.Fit := by
  induction v using V.ind with
  | h k n s ks l ih =>
    intro m hk h0 h1; unfold V.cnt at h0; have h2 := cntL_len l (m - 1) h0; have h3 := cntL_le l (m - 1)
    cases hk with
    | mk hk hs => exact .mk hk (by omega) (fun t ht => by
        obtain ⟨m', h4, h5⟩ := cntL_mem l (m - 1) h0 t ht
        exact ih t ht m' (hs t ht) h5 (by omega))
theorem fit_small {v : V} (h : 0 ≤ v.cnt 400 ∧ V.Kfit v) : v.Fit := fit_of v 400 h.2 h.1 (by omega)
/-- What stands while Copy goes over the list: the copy's block X, its keys and values of its own. -/
structure CpSt (w0 : World) (X : Nat) (k n : Int) (s : ByteArray) (w : World) (kv lv : Value) (ks : List ByteArray) (L : List VT) : Prop where
  x : Blk w X [.int .u8 k, .int .u64 n, .string s, kv, lv]
  ko : Own w0.heap.size 9 1 strEnc w kv ks
  lo : Own w0.heap.size 31 5 vEnc w lv L
  rd : ∀ x ∈ L, Rd (MP w0.heap.size kv lv) w x
  up : Upd (Only X) w0 w
  xl : X < w0.heap.size
section
variable {w0 w w' : World} {X : Nat} {k n : Int} {s : ByteArray} {kv lv : Value} {ks : List ByteArray} {L : List VT}
theorem CpSt.pure (h : CpSt w0 X k n s w kv lv ks L) (hB : Below w.heap.size w w') : CpSt w0 X k n s w' kv lv ks L :=
  ⟨h.x.pure hB, h.ko.pure hB, h.lo.pure hB, fun x hx => (h.rd x hx).pure hB, h.up.trans (Upd.of_below (S := fun _ => False) hB) (fun _ e _ => e.elim), h.xl⟩
theorem CpSt.tree {t : VT} (h : CpSt w0 X k n s w kv lv ks L) (ht : Rd (fun i => w.heap.size ≤ i) w' t) : Rd (MP w0.heap.size kv lv) w' t :=
  ht.weaken (fun i _ hi => ⟨Nat.le_trans h.up.size hi, fun e => by have := h.ko.lt e; omega, fun e => by have := h.lo.lt e; omega⟩)
theorem CpSt.app {g cap : Nat} {t : VT} (h : CpSt w0 X k n s w kv lv ks L) (hO : Own w0.heap.size 31 5 vEnc w' (.slice (some ⟨g, 0, none⟩) (L.length + 1) cap) (L ++ [t])) (hg : w.grownBy w' lv.ownBlock) (hf : lv.ownBlock = some g ∨ g = w.heap.size)
    (ht : Rd (MP w0.heap.size kv lv) w t) :
    Blk w' X [.int .u8 k, .int .u64 n, .string s, kv, lv] ∧ CpSt w0 X k n s (w'.setCell ⟨X, 4, none⟩ (.slice (some ⟨g, 0, none⟩) (L.length + 1) cap)) kv (.slice (some ⟨g, 0, none⟩) (L.length + 1) cap) ks (L ++ [t]) := by
  have h2 := h.xl; have hgb : w0.heap.size ≤ g := hO.ge rfl; have hu1 : Upd (fun i => lv.ownBlock = some i) w w' := Upd.grown hg (fun i e => e); have hs := Upd.set (S := fun i => i = X) (w := w') (p := ⟨X, 4, none⟩) rfl (.slice (some ⟨g, 0, none⟩) (L.length + 1) cap); have hx : Blk w' X [.int .u8 k, .int .u64 n, .string s, kv, lv] := h.x.upd hu1 (fun e => by have := h.lo.ge e; omega); have hu : Upd (fun i => lv.ownBlock = some i ∨ i = g ∨ i = X) w (w'.setCell ⟨X, 4, none⟩ (.slice (some ⟨g, 0, none⟩) (L.length + 1) cap)) := (hu1.mono (fun i e _ => .inl e)).trans hs (fun i e _ => .inr (.inr e))
  have hrd : ∀ x, Rd (MP w0.heap.size kv lv) w x → Rd (MP w0.heap.size kv (.slice (some ⟨g, 0, none⟩) (L.length + 1) cap)) (w'.setCell ⟨X, 4, none⟩ (.slice (some ⟨g, 0, none⟩) (L.length + 1) cap)) x := fun x hx => by
    have r := hx.weaken (Q := fun i => MP w0.heap.size kv lv i ∧ g ≠ i) (fun i hi hm => ⟨hm, fun e => by
      rcases hf with hf | hf
      · exact hm.2.2 (by rw [hf, e])
      · omega⟩)
    have r2 := r.upd hu (fun i hi e => by
      rcases e with e | e | e
      · exact hi.1.2.2 e
      · exact hi.2 e.symm
      · have := hi.1.1; omega)
    exact r2.weaken (fun i _ hi => ⟨hi.1.1, hi.1.2.1, fun e => hi.2 (by simpa [Value.ownBlock] using e)⟩)
  refine ⟨hx, hx.set 4 _, h.ko.upd hu (fun i hi e => ?_), hO.upd hs (fun i hi e => by have := hO.ge hi; omega), fun x hx => ?_, h.up.trans hu (fun i e hi => by rcases e with e | e | e; (have := h.lo.ge e; omega); omega; exact e), h.xl⟩
  · rcases e with e | e | e
    · exact own_ne h.ko h.lo (by decide) hi e
    · subst e; rcases hf with hf | hf
      · exact own_ne h.ko h.lo (by decide) hi hf
      · have := h.ko.lt hi; omega
    · have := h.ko.ge hi; omega
  · rcases List.mem_append.1 hx with hx | hx
    · exact hrd x (h.rd x hx)
    · rw [List.mem_singleton.1 hx]; exact hrd t ht
theorem CpSt.whole {S : Nat → Prop} (h : CpSt w0 X k n s w kv lv ks L) (hu : Upd S w w') (hS : ∀ i, S i → i < w0.heap.size) (hn0 : 0 ≤ n) (hn1 : n < 18446744073709551616) (h0 : 0 ≤ k) (h1 : k < 256) : Rd (fun i => w0.heap.size ≤ i) w' (.mk k n s kv lv ks L) :=
  .mk ((h.ko.upd hu (fun i hi e => by have h2 := h.ko.ge hi; have h3 := hS i e; omega)).slc strEnc_len) (fun _ i hi => h.ko.ge hi) ((h.lo.upd hu (fun i hi e => by have h2 := h.lo.ge hi; have h3 := hS i e; omega)).slc vEnc_len) (fun _ i hi => h.lo.ge hi)
    (fun x hx => ((h.rd x hx).upd hu (fun i hi e => by have h2 := hi.1; have h3 := hS i e; omega)).weaken (fun i _ hi => hi.1)) hn0 hn1 h0 h1
end
end Go.Proofs.YtlonokcaddpniaaGreatDoor
namespace Go.Proofs.YtlonokcaddpniaaGreatDoor
open Go.ChangeShapes Go.WideShapes Go.ChangeAt Go.RowKit
set_option maxRecDepth 100000
section
variable {H : Type} {enc : TypeId × Value → H} {P : Program} {w : World} {base : Nat} {spare : Nat → Bool} {held : Bool}
theorem open_slcF {α : Type} {ρ : α → List Value} {Wf : α → Prop} {m : Nat} {t e : TypeId} {v : Value} (ht : P.underlying t = some (.slice e)) (hc : P.cellsOf e = m) (hm : 0 < m)
    {fuel : Nat} {z : DataW H × List MemPlace} (hel : ∀ n cs y, n < fuel → DataW.trod enc P w base spare held n e cs = some y → ∃ x, cs = ρ x ∧ Wf x)
    (hsl : ∃ a len cap, v = .slice a len cap) (hf : DataW.trod enc P w base spare held fuel t [v] = some z) :
    ∃ L : List α, Slc ρ m w v L ∧ ∀ x ∈ L, Wf x := by
  rcases DataW.trod_slice ht hf with ⟨hcs, hx⟩ | ⟨a, len, cap, elems, rest, n, hfu, hcs, hx, hb, hl, hmx, hlen, hi, -⟩
  · refine ⟨[], .inl ⟨none, 0, ?_, by simp, rfl⟩, by simp⟩; obtain ⟨a, l, c, rfl⟩ := hsl; simpa [Value.cells] using hcs
  · have hv : v = .slice (some a) len cap := by obtain ⟨a, l, c, rfl⟩ := hsl; simpa [Value.cells] using hcs
    subst hv
    have key : ∀ i, i < len → ∃ x, Wf x ∧ w.cells? base (a.add (i * m)) m = some (ρ x) := by
      intro i hil
      obtain ⟨cs', h1, h2⟩ : ∃ cs', w.cells? base (a.add (i * P.cellsOf e)) (P.cellsOf e) = some cs' ∧ DataW.trod enc P w base spare held n e cs' = some elems[i] := by
        have := hi i hil; rw [List.getElem?_eq_getElem (by omega)] at this; exact Option.bind_eq_some_iff.1 this
      obtain ⟨x, rfl, hw⟩ := hel n _ _ (by omega) h2; rw [hc] at h1; exact ⟨x, hw, h1⟩
    by_cases h0 : len = 0
    · subst h0; exact ⟨[], .inl ⟨some a, cap, rfl, hmx, rfl⟩, by simp⟩
    have hspot : a.spot = none := by
      obtain ⟨x, _, h1⟩ := key 0 (by omega); obtain ⟨_, hlen, hcell⟩ := World.cells?_some h1; have h2 := hcell 0 (by omega); simp only [Nat.zero_mul] at h2; have e1 : (a.add 0).add 0 = a := by simp [Addr.add]
      rw [e1] at h2; have h3 : 0 < (ρ x).length := by omega
      rw [List.getElem?_eq_getElem h3] at h2; exact World.cell?_spot h2
    haveI : Inhabited α := ⟨(key 0 (by omega)).choose⟩
    obtain ⟨f, hf'⟩ := Deep.choose_lt key; refine ⟨(List.range len).map f, .inr ⟨a.block, a.off, cap, ?_, by simpa using hl, hmx, ?_⟩, ?_⟩
    · have : a = ⟨a.block, a.off, none⟩ := by obtain ⟨b, o, s⟩ := a; simp_all
      simp [← this]
    · intro i hil j u hu; simp only [List.length_map, List.length_range] at hil; simp only [List.getElem_map, List.getElem_range] at hu; obtain ⟨_, h1⟩ := hf' i hil; obtain ⟨_, hlen, hcell⟩ := World.cells?_some h1; have hj : j < m := by rw [← hlen]; exact (List.getElem?_eq_some_iff.1 hu).1
      have h2 := hcell j hj; rw [hu, Deep.add_add, add_eq a hspot, ← Nat.add_assoc] at h2; exact h2
    · intro x hx; rw [List.mem_map] at hx; obtain ⟨i, hi', rfl⟩ := hx; exact (hf' i (List.mem_range.1 hi')).1
end
section
variable {H : Type} {enc : TypeId × Value → H} {w : World} {base : Nat} {spare : Nat → Bool} {held : Bool}
theorem slice_shape {t e : TypeId} {n : Nat} {c : Value} {y : DataW H × List MemPlace} (ht : Tryz.prog.underlying t = some (.slice e)) (h : DataW.trod enc Tryz.prog w base spare held n t [c] = some y) : ∃ a l cap, c = .slice a l cap := by
  rcases DataW.trod_slice ht h with ⟨hcs, _⟩ | ⟨a, len, cap, _, _, _, _, hcs, _⟩
  · simp only [List.cons.injEq, and_true] at hcs; exact ⟨_, _, _, hcs⟩
  · simp only [List.cons.injEq, and_true] at hcs; exact ⟨_, _, _, hcs⟩
theorem struct_fields {t : TypeId} {fs : Array Field} {n : Nat} {cs : List Value} {y : DataW H × List MemPlace} (ht : Tryz.prog.underlying t = some (.struct fs)) (h : DataW.trod enc Tryz.prog w base spare held n t cs = some y) :
    cs.length = Tryz.prog.cellsOf t ∧ ∃ m, n = m + 1 ∧ ∀ (i : Nat) (f : Field), fs[i]? = some f → ∃ z, DataW.trod enc Tryz.prog w base spare held m f.type ((cs.drop f.offset).take (Tryz.prog.cellsOf f.type)) = some z := by
  obtain ⟨xs, n', rfl, -, hl, hlen, hf⟩ := DataW.trod_struct ht h; refine ⟨hl, n', rfl, fun i f hi => ?_⟩; have hlt : i < xs.length := by rw [hlen]; exact (Array.getElem?_eq_some_iff.1 hi).1
  have h1 := hf i f hi; rw [List.getElem?_eq_getElem hlt] at h1; exact ⟨_, h1⟩
/-- A value that came in. -/
theorem open_val : ∀ (fuel : Nat) (cs : List Value) (y : DataW H × List MemPlace), DataW.trod enc Tryz.prog w base spare held fuel 31 cs = some y → ∃ t : VT, cs = vEnc t ∧ Rd (fun _ => True) w t := by
  intro fuel
  induction fuel using Nat.strongRecOn with
  | ind fuel ih =>
    intro cs y h; obtain ⟨hl, n, rfl, g⟩ := struct_fields Tryz.underlying31 h; have hc : Tryz.prog.cellsOf 31 = 5 := by kernel_rfl
    have c0 : Tryz.prog.cellsOf 27 = 1 := by kernel_rfl
    have c1 : Tryz.prog.cellsOf 26 = 1 := by kernel_rfl
    have c2 : Tryz.prog.cellsOf 9 = 1 := by kernel_rfl
    have c3 : Tryz.prog.cellsOf 28 = 1 := by kernel_rfl
    have c4 : Tryz.prog.cellsOf 29 = 1 := by kernel_rfl
    rw [hc] at hl
    match cs, hl with
    | [a0, a1, a2, a3, a4], _ =>
      obtain ⟨k, rfl, wk⟩ := field_int Tryz.underlying27 c0 (o := 0) (c := a0) rfl (g 0 _ rfl); obtain ⟨m, rfl, wm⟩ := field_int Tryz.underlying26 c1 (o := 1) (c := a1) rfl (g 1 _ rfl); obtain ⟨s, rfl, ws⟩ := field_string Tryz.underlying9 c2 (o := 2) (c := a2) rfl (g 2 _ rfl); obtain ⟨z3, h3⟩ := g 3 _ rfl; obtain ⟨z4, h4⟩ := g 4 _ rfl; have h3' : DataW.trod enc Tryz.prog w base spare held n 28 (([.int .u8 k, .int .u64 m, .string s, a3, a4].drop 3).take (Tryz.prog.cellsOf 28)) = some z3 := h3; have h4' : DataW.trod enc Tryz.prog w base spare held n 29 (([.int .u8 k, .int .u64 m, .string s, a3, a4].drop 4).take (Tryz.prog.cellsOf 29)) = some z4 := h4; rw [c3] at h3'; rw [c4] at h4'; simp only [List.drop_succ_cons, List.drop_zero, List.take_succ_cons, List.take_zero] at h3' h4'
      obtain ⟨ks, hK, -⟩ := open_slcF (ρ := strEnc) (Wf := fun _ => True) (m := 1) Tryz.underlying28 c2 (by omega) (fun n cs y _ hy => by
        obtain ⟨x, rfl, _, _⟩ := DataW.trod_string Tryz.underlying9 hy
        exact ⟨x, rfl, trivial⟩) (slice_shape Tryz.underlying28 h3') h3'
      obtain ⟨L, hL, hW⟩ := open_slcF (ρ := vEnc) (Wf := fun t => Rd (fun _ => True) w t) (m := 5) Tryz.underlying29 hc (by omega) (fun n' cs y hn hy => ih n' (by omega) cs y hy) (slice_shape Tryz.underlying29 h4') h4'; have bk := bounds_u8 wk
      have bm : 0 ≤ m ∧ m < 18446744073709551616 := by
        simp [Lit.wf, IntKind.min, IntKind.max, IntKind.signed, IntKind.bits] at wm; omega
      exact ⟨.mk k m s a3 a4 ks L, rfl, .mk hK (fun _ _ _ => trivial) hL (fun _ _ _ => trivial) hW bm.1 bm.2 bk.1 (by have := bk.2; show k < 256; omega)⟩
end
/-- The variables that are laid. -/
def LAID : List (String × DataW Unit) := [("unicode/utf8.acceptRanges", Rows.laid_unicode_utf8_acceptRanges), ("unicode/utf8.first", Rows.laid_unicode_utf8_first)]
theorem accept_eq : Rows.laid_unicode_utf8_acceptRanges = Lib.acceptData := by kernel_rfl
theorem tb_of_laid {w : World} (hL : laidMet Tryz.prog LAID w) : Tb w :=
  utf8Tabs_of_reads { u8lays with } ⟨by kernel_rfl, by kernel_rfl, by kernel_rfl, by kernel_rfl, by kernel_rfl, by kernel_rfl, by kernel_rfl⟩ (Pinned.utf8First_eq ▸ Lib.laidMet.reads hL (.tail _ (.head _))) (accept_eq ▸ Lib.laidMet.reads hL (.head _))
end Go.Proofs.YtlonokcaddpniaaGreatDoor
