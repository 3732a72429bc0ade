/- Entries: the document's CopyPuts. Condition: the puts are small. Written by gen_enU.py. -/
import Derived.Test.YtlonokcaddpniaaGreatDoorER
import Derived.Test.YtlonokcaddpniaaGreatDoorEG
set_option linter.unusedSimpArgs false
set_option linter.unusedVariables false
namespace Go.Proofs.YtlonokcaddpniaaGreatDoor
open Go.RowKit
/-- What stands while puts are copied. -/
structure CSt (w0 w : World) (lv : Value) (L : List PtT) : Prop where
  o : Own w0.heap.size 35 12 ptEnc w lv L
  rd : ∀ x ∈ L, Rd (fun i => w0.heap.size ≤ i ∧ lv.ownBlock ≠ some i) w x.pr.app
  b : Below w0.heap.size w0 w
theorem CSt.upd {w0 w w' : World} {lv : Value} {L : List PtT} {S : Nat → Prop} (h : CSt w0 w lv L) (hu : Upd S w w') (hS : ∀ k, S k → w.heap.size ≤ k) : CSt w0 w' lv L :=
  ⟨h.o.upd hu (fun i hi e => by have h1 := h.o.lt hi; have h2 := hS _ e; omega), fun x hx => ((h.rd x hx).lt.upd hu (fun i hi e => by have h1 := hi.2; have h2 := hS _ e; omega)).weaken (fun i _ hi => hi.1), below_upd h.b hu (fun k e => Nat.le_trans h.b.size (hS k e)) h.b.size⟩
theorem CSt.pure {w0 w w' : World} {lv : Value} {L : List PtT} (h : CSt w0 w lv L) (hB : Below w.heap.size w w') : CSt w0 w' lv L := h.upd (Upd.of_below (S := fun _ => False) hB) (fun _ e => e.elim)
theorem CSt.app {w0 w w' : World} {lv : Value} {L : List PtT} {g cap : Nat} {t : PtT} (h : CSt w0 w lv L) (hO : Own w0.heap.size 35 12 ptEnc w' (.slice (some ⟨g, 0, none⟩) (L.length + 1) cap) (L ++ [t])) (hg : w.grownBy w' lv.ownBlock) (hf : lv.ownBlock = some g ∨ g = w.heap.size)
    (ht : Rd (fun i => w0.heap.size ≤ i ∧ lv.ownBlock ≠ some i) w t.pr.app) : CSt w0 w' (.slice (some ⟨g, 0, none⟩) (L.length + 1) cap) (L ++ [t]) := by
  have hu : Upd (fun i => lv.ownBlock = some i) w w' := Upd.grown hg (fun i e => e)
  have hrd : ∀ x : VT, Rd (fun i => w0.heap.size ≤ i ∧ lv.ownBlock ≠ some i) w x → Rd (fun i => w0.heap.size ≤ i ∧ (Value.slice (some ⟨g, 0, none⟩) (L.length + 1) cap).ownBlock ≠ some i) w' x := fun x hx =>
    (hx.weaken (Q := fun i => (w0.heap.size ≤ i ∧ (Value.slice (some ⟨g, 0, none⟩) (L.length + 1) cap).ownBlock ≠ some i) ∧ lv.ownBlock ≠ some i) (fun i hi hm => ⟨⟨hm.1, fun e => by
      have e : some g = some i := e; rcases hf with hf | hf
      · exact hm.2 (hf.trans e)
      · injection e with e; omega⟩, hm.2⟩)).upd hu (fun i hi e => hi.2 e) |>.weaken (fun i _ hm => hm.1)
  refine ⟨hO, fun x hx => ?_, below_upd h.b hu (fun k e => h.o.ge e) h.b.size⟩; rcases List.mem_append.1 hx with hx | hx
  · exact hrd _ (h.rd x hx)
  · rw [List.mem_singleton.1 hx]; exact hrd _ ht
end Go.Proofs.YtlonokcaddpniaaGreatDoor
