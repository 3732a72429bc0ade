/- Chapter 05: how the laws' arguments are opened: bytes, values. Conditions: none. Written by gen_vargs.py. (Texts joined.) -/
import Derived.Test.YtflglpbjapgciaaGreatDoorKM
import Derived.Test.YtflglpbjapgciaaGreatDoorKQ
import Derived.Test.YtflglpbjapgciaaGreatDoorKJ
import Derived.Test.YtflglpbjapgciaaGreatDoorKA
import Derived.Test.YtflglpbjapgciaaGreatDoorRows
import Derived.Lib.LaidU8
import Derived.PinnedBridge
import Derived.Lay
import Derived.OpenShut
import Derived.Deep.DeepHandedRow
set_option linter.unusedSimpArgs false
set_option linter.unusedVariables false
namespace Go.Proofs.YtflglpbjapgciaaGreatDoor
open Go.RowKit
/-- Nowhere in it are there more than a million keys or values. -/
inductive V.Fit : V → Prop
  | mk {k n : Int} {s : ByteArray} {ks : List ByteArray} {l : List V} : ks.length ≤ 1000000 → l.length ≤ 1000000 → (∀ t ∈ l, V.Fit t) → V.Fit (.mk k n s ks l)
/-- What stands while Copy goes over the list: the copy's block X, its keys and values of its own. -/
structure CpSt (w0 : World) (X : Nat) (k n : Int) (s : ByteArray) (w : World) (kv lv : Value) (ks : List ByteArray) (L : List VT) : Prop where
  x : Blk w X [.int .u8 k, .int .u64 n, .string s, kv, lv]
  ko : Own w0.heap.size 9 1 strEnc w kv ks
  lo : Own w0.heap.size 60 5 vEnc w lv L
  rd : ∀ x ∈ L, Rd (MP w0.heap.size kv lv) w x
  up : Upd (Only X) w0 w
  xl : X < w0.heap.size
section
variable {w0 w w' : World} {X : Nat} {k n : Int} {s : ByteArray} {kv lv : Value} {ks : List ByteArray} {L : List VT}
theorem CpSt.pure (h : CpSt w0 X k n s w kv lv ks L) (hB : Below w.heap.size w w') : CpSt w0 X k n s w' kv lv ks L :=
  ⟨h.x.pure hB, h.ko.pure hB, h.lo.pure hB, fun x hx => (h.rd x hx).pure hB, h.up.trans (Upd.of_below (S := fun _ => False) hB) (fun _ e _ => e.elim), h.xl⟩
theorem CpSt.tree {t : VT} (h : CpSt w0 X k n s w kv lv ks L) (ht : Rd (fun i => w.heap.size ≤ i) w' t) : Rd (MP w0.heap.size kv lv) w' t :=
  ht.weaken (fun i _ hi => ⟨Nat.le_trans h.up.size hi, fun e => by have := h.ko.lt e; omega, fun e => by have := h.lo.lt e; omega⟩)
theorem CpSt.app {g cap : Nat} {t : VT} (h : CpSt w0 X k n s w kv lv ks L) (hO : Own w0.heap.size 60 5 vEnc w' (.slice (some ⟨g, 0, none⟩) (L.length + 1) cap) (L ++ [t])) (hg : w.grownBy w' lv.ownBlock) (hf : lv.ownBlock = some g ∨ g = w.heap.size)
    (ht : Rd (MP w0.heap.size kv lv) w t) :
    Blk w' X [.int .u8 k, .int .u64 n, .string s, kv, lv] ∧ CpSt w0 X k n s (w'.setCell ⟨X, 4, none⟩ (.slice (some ⟨g, 0, none⟩) (L.length + 1) cap)) kv (.slice (some ⟨g, 0, none⟩) (L.length + 1) cap) ks (L ++ [t]) := by
  have h2 := h.xl; have hgb : w0.heap.size ≤ g := hO.ge rfl; have hu1 : Upd (fun i => lv.ownBlock = some i) w w' := Upd.grown hg (fun i e => e); have hs := Upd.set (S := fun i => i = X) (w := w') (p := ⟨X, 4, none⟩) rfl (.slice (some ⟨g, 0, none⟩) (L.length + 1) cap); have hx : Blk w' X [.int .u8 k, .int .u64 n, .string s, kv, lv] := h.x.upd hu1 (fun e => by have := h.lo.ge e; omega); have hu : Upd (fun i => lv.ownBlock = some i ∨ i = g ∨ i = X) w (w'.setCell ⟨X, 4, none⟩ (.slice (some ⟨g, 0, none⟩) (L.length + 1) cap)) := (hu1.mono (fun i e _ => .inl e)).trans hs (fun i e _ => .inr (.inr e))
  have hrd : ∀ x, Rd (MP w0.heap.size kv lv) w x → Rd (MP w0.heap.size kv (.slice (some ⟨g, 0, none⟩) (L.length + 1) cap)) (w'.setCell ⟨X, 4, none⟩ (.slice (some ⟨g, 0, none⟩) (L.length + 1) cap)) x := fun x hx => by
    have r := hx.weaken (Q := fun i => MP w0.heap.size kv lv i ∧ g ≠ i) (fun i hi hm => ⟨hm, fun e => by
      rcases hf with hf | hf
      · exact hm.2.2 (by rw [hf, e])
      · omega⟩)
    have r2 := r.upd hu (fun i hi e => by
      rcases e with e | e | e
      · exact hi.1.2.2 e
      · exact hi.2 e.symm
      · have := hi.1.1; omega)
    exact r2.weaken (fun i _ hi => ⟨hi.1.1, hi.1.2.1, fun e => hi.2 (by simpa [Value.ownBlock] using e)⟩)
  refine ⟨hx, hx.set 4 _, h.ko.upd hu (fun i hi e => ?_), hO.upd hs (fun i hi e => by have := hO.ge hi; omega), fun x hx => ?_, h.up.trans hu (fun i e hi => by rcases e with e | e | e; (have := h.lo.ge e; omega); omega; exact e), h.xl⟩
  · rcases e with e | e | e
    · exact own_ne h.ko h.lo (by decide) hi e
    · subst e; rcases hf with hf | hf
      · exact own_ne h.ko h.lo (by decide) hi hf
      · have := h.ko.lt hi; omega
    · have := h.ko.ge hi; omega
  · rcases List.mem_append.1 hx with hx | hx
    · exact hrd x (h.rd x hx)
    · rw [List.mem_singleton.1 hx]; exact hrd t ht
theorem CpSt.whole {S : Nat → Prop} (h : CpSt w0 X k n s w kv lv ks L) (hu : Upd S w w') (hS : ∀ i, S i → i < w0.heap.size) (hn0 : 0 ≤ n) (hn1 : n < 18446744073709551616) (h0 : 0 ≤ k) (h1 : k < 256) : Rd (fun i => w0.heap.size ≤ i) w' (.mk k n s kv lv ks L) :=
  .mk ((h.ko.upd hu (fun i hi e => by have h2 := h.ko.ge hi; have h3 := hS i e; omega)).slc strEnc_len) (fun _ i hi => h.ko.ge hi) ((h.lo.upd hu (fun i hi e => by have h2 := h.lo.ge hi; have h3 := hS i e; omega)).slc vEnc_len) (fun _ i hi => h.lo.ge hi)
    (fun x hx => ((h.rd x hx).upd hu (fun i hi e => by have h2 := hi.1; have h3 := hS i e; omega)).weaken (fun i _ hi => hi.1)) hn0 hn1 h0 h1
end
end Go.Proofs.YtflglpbjapgciaaGreatDoor
namespace Go.Proofs.YtflglpbjapgciaaGreatDoor
open Go.ChangeShapes Go.WideShapes Go.ChangeAt Go.RowKit
set_option maxRecDepth 100000
section
variable {H : Type} {enc : TypeId × Value → H} {P : Program} {w : World} {base : Nat} {spare : Nat → Bool} {held : Bool}
end
section
variable {H : Type} {enc : TypeId × Value → H} {w : World} {base : Nat} {spare : Nat → Bool} {held : Bool}
end
/-- The variables that are laid. -/
def LAID : List (String × DataW Unit) := [("unicode/utf8.acceptRanges", Rows.laid_unicode_utf8_acceptRanges), ("unicode/utf8.first", Rows.laid_unicode_utf8_first)]
theorem accept_eq : Rows.laid_unicode_utf8_acceptRanges = Lib.acceptData := by kernel_rfl
theorem tb_of_laid {w : World} (hL : laidMet Tryz.prog LAID w) : Tb w :=
  utf8Tabs_of_reads { u8lays with } ⟨by kernel_rfl, by kernel_rfl, by kernel_rfl, by kernel_rfl, by kernel_rfl, by kernel_rfl, by kernel_rfl⟩ (Pinned.utf8First_eq ▸ Lib.laidMet.reads hL (.tail _ (.head _))) (accept_eq ▸ Lib.laidMet.reads hL (.head _))
end Go.Proofs.YtflglpbjapgciaaGreatDoor
