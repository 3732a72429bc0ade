/- octet.Reader: Take where there is too little, Num, Text. Conditions: the reader was made by Open; widths 1, 2, 4, 8. (Texts joined.) -/
import Derived.Test.YtgnaifhmcllnlaaGreatDoorAbb
import Derived.WalkSpells
import Derived.WalkLawsBesides
import Derived.BigQuiet
import Derived.Test.YtgnaifhmcllnlaaGreatDoorProg
import Derived.Deep.Cut
import Derived.Deep.RegionHeld3
set_option maxRecDepth 100000
set_option maxHeartbeats 1600000
set_option linter.unusedSimpArgs false
set_option linter.unusedVariables false
namespace Go.Proofs.YtgnaifhmcllnlaaGreatDoor
open Go.RowKit Tryz
structure Upd (S : Nat → Prop) (w w' : World) : Prop where
 os : w'.os = w.os
 tape : w'.tape = w.tape
 output : w'.output = w.output
 size : w.heap.size ≤ w'.heap.size
 block : ∀ k, k < w.heap.size → ¬ S k → w'.heap[k]? = w.heap[k]?
theorem Upd.refl (S : Nat → Prop) (w : World) : Upd S w w := ⟨rfl, rfl, rfl, qj _, fun _ _ _ => rfl⟩
theorem Upd.trans {S T : Nat → Prop} {a b c : World} (h : Upd S a b) (k : Upd T b c) (A : ∀ i, T i → i < a.heap.size → S i) : Upd S a c :=
 ⟨k.os.trans h.os, k.tape.trans h.tape, k.output.trans h.output, jk h.size k.size, fun i hi hs =>
  (k.block i (jg hi h.size) (fun D => hs (A i D hi))).trans (h.block i hi hs)⟩
theorem Upd.mono {S T : Nat → Prop} {a b : World} (h : Upd S a b) (A : ∀ i, S i → i < a.heap.size → T i) : Upd T a b :=
 ⟨h.os, h.tape, h.output, h.size, fun i hi hs => h.block i hi (fun D => hs (A i D hi))⟩
theorem Upd.of_below {S : Nat → Prop} {w w' : World} (h : Below w.heap.size w w') : Upd S w w' :=
 ⟨h.os, h.tape, h.output, h.size, fun k A _ => h.block k A⟩
theorem Upd.below {S : Nat → Prop} {w w' : World} {B : Nat} (h : Upd S w w') (D : B ≤ w.heap.size) (A : ∀ k, S k → B ≤ k) : Below B w w' :=
 ⟨h.os, h.tape, h.output, h.size, fun k E => h.block k (by omega) (fun hs => by have := A k hs; omega)⟩
theorem Upd.set {S : Nat → Prop} {w : World} {p : Addr} (A : S p.block) (u : Value) : Upd S w (w.setCell p u) :=
 ⟨rfl, rfl, rfl, by simp, fun k _ hs => Below.heap_setCell _ _ _ _ (fun e => hs (e ▸ A))⟩
theorem Upd.grown {S : Nat → Prop} {w w' : World} {row : Option Nat} (A : w.grownBy w' row) (E : ∀ k, row = some k → S k) : Upd S w w' :=
 ⟨A.os, A.tape, A.output, A.size, fun k D hs => A.block k D (fun e => hs (E k e.symm))⟩
theorem Upd.drew {S : Nat → Prop} {a w : World} (h : Upd S a w) : Upd S a w.drew := ⟨h.os, h.tape, h.output, h.size, h.block⟩
theorem Upd.cell {S : Nat → Prop} {w w' : World} (h : Upd S w w') {p : Addr} (A : p.block < w.heap.size) (hs : ¬ S p.block) : w'.cell? p = w.cell? p :=
 World.cell?_of_block (w := w) (h.block p.block A hs)
def Blk (w : World) (b : Nat) (cs : List Value) : Prop := ∃ T, w.heap[b]? = some (.cells cs.toArray T (0, 0))
theorem Blk.lt {w : World} {b : Nat} {A : List Value} (h : Blk w b A) : b < w.heap.size := by
 obtain ⟨T, h⟩ := h; exact (Array.getElem?_eq_some_iff.1 h).1
theorem Blk.cell {w : World} {b : Nat} {A : List Value} (h : Blk w b A) (i : Nat) : w.cell? ⟨b, i, none⟩ = A[i]? := by
 obtain ⟨T, h⟩ := h; simp [World.cell?, h]
theorem Blk.frozen {w : World} {b : Nat} {A : List Value} (h : Blk w b A) (i : Nat) : w.frozen? ⟨b, i, none⟩ = false := by
 obtain ⟨T, h⟩ := h; simp [World.frozen?, h]
theorem Blk.keep {w w' : World} {b : Nat} {A : List Value} (h : Blk w b A) (D : w'.heap[b]? = w.heap[b]?) : Blk w' b A := by
 obtain ⟨T, h⟩ := h; exact ⟨T, D.trans h⟩
theorem Blk.upd {S : Nat → Prop} {w w' : World} {b : Nat} {A : List Value} (h : Blk w b A) (D : Upd S w w') (hs : ¬ S b) : Blk w' b A :=
 h.keep (D.block b h.lt hs)
theorem Blk.below {w w' : World} {b B : Nat} {A : List Value} (h : Blk w b A) (D : Below B w w') (hs : b < B) : Blk w' b A :=
 h.keep (D.block b hs)
theorem Blk.pure {w w' : World} {b : Nat} {A : List Value} (h : Blk w b A) (D : Below w.heap.size w w') : Blk w' b A :=
 h.keep (D.block b h.lt)
theorem Blk.set {w : World} {b : Nat} {A : List Value} (h : Blk w b A) (i : Nat) (v : Value) : Blk (w.setCell ⟨b, i, none⟩ v) b (A.set i v) := by
 obtain ⟨T, h⟩ := h
 refine ⟨T, ?_⟩
 show (w.heap.modify b _)[b]? = _
 rw [Array.getElem?_modify, qw rfl, h]
 simp
theorem Blk.other {w : World} {b : Nat} {A : List Value} (h : Blk w b A) (p : Addr) (v : Value) (D : b ≠ p.block) : Blk (w.setCell p v) b A :=
 h.keep (Below.heap_setCell _ _ _ _ D)
theorem Blk.alloc {w : World} {b : Nat} {A : List Value} (h : Blk w b A) (o : Obj) : Blk (w.alloc o) b A :=
 h.keep (Below.heap_alloc _ _ _ h.lt)
theorem Blk.new (w : World) (A : List Value) (T : TypeId) : Blk (w.alloc (.cells A.toArray T)) w.heap.size A :=
 ⟨T, heap_alloc_new w _⟩
theorem Blk.drew {w : World} {b : Nat} {A : List Value} (h : Blk w b A) : Blk w.drew b A := h
def Slc {α : Type} (enc : α → List Value) (m : Nat) (w : World) (v : Value) (L : List α) : Prop :=
 (∃ a cap, v = .slice a 0 cap ∧ cap ≤ maxLen ∧ L = []) ∨
 ∃ g off cap, v = .slice (some ⟨g, off, none⟩) L.length cap ∧ L.length ≤ cap ∧ cap ≤ maxLen ∧
  ∀ i, (h : i < L.length) → ∀ j u, (enc L[i])[j]? = some u → w.cell? ⟨g, off + i * m + j, none⟩ = some u
theorem Slc.keep {α : Type} {enc : α → List Value} {m : Nat} {w w' : World} {v : Value} {L : List α} (h : Slc enc m w v L)
 (E : ∀ p : Addr, p.block < w.heap.size → some p.block = v.ownBlock → w'.cell? p = w.cell? p) : Slc enc m w' v L := by
 rcases h with h | ⟨g, off, D, A, I, F, G⟩
 ·exact .inl h
 ·refine .inr ⟨g, off, D, A, I, F, fun i hi j u H => ?_⟩
  have := G i hi j u H; rw [E _ (World.block_lt_of_cell? w _ this) (by rw [A]; rfl)]; exact this
theorem Slc.pure {α : Type} {enc : α → List Value} {m : Nat} {w w' : World} {v : Value} {L : List α} (h : Slc enc m w v L)
 (A : Below w.heap.size w w') : Slc enc m w' v L := h.keep fun _ D _ => A.cell D
theorem Slc.upd {α : Type} {enc : α → List Value} {m : Nat} {S : Nat → Prop} {w w' : World} {v : Value} {L : List α} (h : Slc enc m w v L)
 (D : Upd S w w') (A : ∀ k, v.ownBlock = some k → ¬ S k) : Slc enc m w' v L := h.keep fun _ E e => D.cell E (A _ e.symm)
theorem Slc.nil {α : Type} (enc : α → List Value) (m : Nat) (w : World) : Slc enc m w (.slice none 0 0) ([] : List α) := .inl ⟨none, 0, rfl, by simp, rfl⟩
theorem Slc.get {α : Type} {enc : α → List Value} {m : Nat} {w : World} {g off n D : Nat} {L : List α} (h : Slc enc m w (.slice (some ⟨g, off, none⟩) n D) L) (i : Nat) (hi : i < L.length) (j : Nat) (u : Value)
 (F : (enc L[i])[j]? = some u) : w.cell? ⟨g, off + i * m + j, none⟩ = some u := by
 rcases h with ⟨_, _, _, _, rfl⟩ | ⟨I, H, G, A, _, _, E⟩
 ·simp at hi
 ·simp only [Value.slice.injEq, jy, Addr.mk.injEq, and_true] at A
  obtain ⟨⟨rfl, rfl⟩, _, _⟩ := A; exact E i hi j u F
theorem Slc.len {α : Type} {enc : α → List Value} {m : Nat} {w : World} {v : Value} {L : List α} (h : Slc enc m w v L) :
 ∃ a A, v = .slice a L.length A ∧ L.length ≤ maxLen := by
 rcases h with ⟨a, A, rfl, E, rfl⟩ | ⟨g, off, A, D, F, G, _⟩
 ·exact ⟨a, A, rfl, by simp⟩
 ·exact ⟨_, A, D, by omega⟩
theorem aic {α : Type} {enc : α → List Value} {m : Nat} (A : ∀ x, (enc x).length = m) :
 ∀ (L : List α) (i : Nat) (h : i < L.length) (j : Nat) (u : Value), (enc L[i])[j]? = some u → (L.flatMap enc)[i * m + j]? = some u
 | [], i, h, _, _, _ => jp h (by simp)
 | x :: L, 0, _, j, u, hu => by
  have D : j < (enc x).length := (List.getElem?_eq_some_iff.1 hu).1; simp only [List.flatMap_cons, Nat.zero_mul, Nat.zero_add]; rw [List.getElem?_append_left D]; exact hu
 | x :: L, i + 1, h, j, u, hu => by
  simp only [List.flatMap_cons]; rw [List.getElem?_append_right (by rw [A, Nat.add_mul]; omega)]; have := aic A L i (by simpa using h) j u hu; rw [A]; rw [show (i + 1) * m + j - m = i * m + j by rw [Nat.add_mul]; omega]; exact this
theorem abp {α : Type} {enc : α → List Value} {m : Nat} (A : ∀ x, (enc x).length = m) (L : List α) : (L.flatMap enc).length = L.length * m := by
 induction L with
 | nil => simp
 | cons x L ih => simp [A, ih, Nat.add_mul]; omega
theorem Slc.own {α : Type} {enc : α → List Value} {m : Nat} (J : ∀ x, (enc x).length = m) {w : World} {base : Nat} {e : TypeId} {v : Value} {n : Nat} {L : List α}
 (h : w.ownsRow base e m v n (L.flatMap enc)) (H : n = L.length) : Slc enc m w v L := by
 subst H
 rcases h.2 with ⟨A, E⟩ | ⟨g, D, K, A, U, M, I, F, N, O⟩
 ·exact .inl ⟨none, 0, A, by simp, List.eq_nil_of_length_eq_zero E⟩
 ·refine .inr ⟨g, 0, D, A, I, F, fun i hi j u G => ?_⟩
  have := h.cells (g := g) (by rw [A]; rfl) (i * m + j) u (aic J L i hi j u G)
  have e : (⟨g, 0, none⟩ : Addr).add (i * m + j) = ⟨g, 0 + i * m + j, none⟩ := by
   unfold Addr.add; split <;> simp_all
  rw [← e]; exact this
theorem acr (s : ByteArray) : s.toList.length = s.size := by rw [ByteArray.toList_eq]; exact Array.length_toList
theorem agt {s : ByteArray} (h : s.size = 0) : s.toList.isEmpty = true := by
 rw [List.isEmpty_iff]; exact List.eq_nil_of_length_eq_zero (by rw [acr]; exact h)
theorem aeg {s : ByteArray} (h : 0 < s.size) : s.toList.isEmpty = false := by
 rw [Bool.eq_false_iff]; intro e; rw [List.isEmpty_iff] at e; have := acr s; rw [e] at this; simp at this; omega
theorem toList_inj {s t : ByteArray} (h : s.toList = t.toList) : s = t := by
 rw [ByteArray.toList_eq, ByteArray.toList_eq] at h
 cases s; cases t; congr 1; exact Array.toList_inj.1 h
theorem aid (s t : ByteArray) : (s.toList == t.toList) = true ↔ s = t := by
 rw [beq_iff_eq]; exact ⟨toList_inj, fun h => by rw [h]⟩
theorem avs {α : Type} {p : α → Bool} {L : List α} {k : Nat} (A : k < L.length) (h : (L.take k).findIdx? p = none) (D : p L[k] = false) :
 (L.take (k + 1)).findIdx? p = none := by
 rw [jx A, List.findIdx?_append, h]
 simp [List.findIdx?_cons, D]
theorem asb {α : Type} {p : α → Bool} {L : List α} {k : Nat} (A : k < L.length) (h : (L.take k).findIdx? p = none) (D : p L[k] = true) :
 L.findIdx? p = some k := by
 rw [List.findIdx?_eq_some_iff_getElem]
 refine ⟨A, D, fun j E => ?_⟩
 rw [List.findIdx?_eq_none_iff] at h
 have := h (L[j]'(by omega)) (by
  rw [List.mem_take_iff_getElem]
  exact ⟨j, by omega, rfl⟩)
 simpa using this
theorem Blk.at {w : World} {b : Nat} {A : List Value} (h : Blk w b A) (i : Nat) {u : Value} (D : A[i]? = some u) : w.cell? ⟨b, i, none⟩ = some u := (h.cell i).trans D
open Tryz
variable {w : World} {b : Nat} {l : List Value} {c0 c1 c2 c3 c4 c5 c6 c7 c8 c9 c10 c11 c12 c13 c14 c15 : Value}
theorem Blk.a2 (h : Blk w b (c0 :: c1 :: l)) : w.cell? ⟨b, 0, none⟩ = some c0 ∧ w.cell? ⟨b, 1, none⟩ = some c1 := ⟨h.at 0 rfl, h.at 1 rfl⟩
theorem Blk.a3 (h : Blk w b (c0 :: c1 :: c2 :: l)) : w.cell? ⟨b, 0, none⟩ = some c0 ∧ w.cell? ⟨b, 1, none⟩ = some c1 ∧ w.cell? ⟨b, 2, none⟩ = some c2 := ⟨h.at 0 rfl, h.at 1 rfl, h.at 2 rfl⟩
theorem Blk.a4 (h : Blk w b (c0 :: c1 :: c2 :: c3 :: l)) : w.cell? ⟨b, 0, none⟩ = some c0 ∧ w.cell? ⟨b, 1, none⟩ = some c1 ∧ w.cell? ⟨b, 2, none⟩ = some c2 ∧ w.cell? ⟨b, 3, none⟩ = some c3 := ⟨h.at 0 rfl, h.at 1 rfl, h.at 2 rfl, h.at 3 rfl⟩
theorem Blk.a5 (h : Blk w b (c0 :: c1 :: c2 :: c3 :: c4 :: l)) : w.cell? ⟨b, 0, none⟩ = some c0 ∧ w.cell? ⟨b, 1, none⟩ = some c1 ∧ w.cell? ⟨b, 2, none⟩ = some c2 ∧ w.cell? ⟨b, 3, none⟩ = some c3 ∧ w.cell? ⟨b, 4, none⟩ = some c4 := ⟨h.at 0 rfl, h.at 1 rfl, h.at 2 rfl, h.at 3 rfl, h.at 4 rfl⟩
theorem Blk.a6 (h : Blk w b (c0 :: c1 :: c2 :: c3 :: c4 :: c5 :: l)) : w.cell? ⟨b, 0, none⟩ = some c0 ∧ w.cell? ⟨b, 1, none⟩ = some c1 ∧ w.cell? ⟨b, 2, none⟩ = some c2 ∧ w.cell? ⟨b, 3, none⟩ = some c3 ∧ w.cell? ⟨b, 4, none⟩ = some c4 ∧ w.cell? ⟨b, 5, none⟩ = some c5 := ⟨h.at 0 rfl, h.at 1 rfl, h.at 2 rfl, h.at 3 rfl, h.at 4 rfl, h.at 5 rfl⟩
theorem Blk.a7 (h : Blk w b (c0 :: c1 :: c2 :: c3 :: c4 :: c5 :: c6 :: l)) : w.cell? ⟨b, 0, none⟩ = some c0 ∧ w.cell? ⟨b, 1, none⟩ = some c1 ∧ w.cell? ⟨b, 2, none⟩ = some c2 ∧ w.cell? ⟨b, 3, none⟩ = some c3 ∧ w.cell? ⟨b, 4, none⟩ = some c4 ∧ w.cell? ⟨b, 5, none⟩ = some c5 ∧ w.cell? ⟨b, 6, none⟩ = some c6 := ⟨h.at 0 rfl, h.at 1 rfl, h.at 2 rfl, h.at 3 rfl, h.at 4 rfl, h.at 5 rfl, h.at 6 rfl⟩
theorem Blk.a8 (h : Blk w b (c0 :: c1 :: c2 :: c3 :: c4 :: c5 :: c6 :: c7 :: l)) : w.cell? ⟨b, 0, none⟩ = some c0 ∧ w.cell? ⟨b, 1, none⟩ = some c1 ∧ w.cell? ⟨b, 2, none⟩ = some c2 ∧ w.cell? ⟨b, 3, none⟩ = some c3 ∧ w.cell? ⟨b, 4, none⟩ = some c4 ∧ w.cell? ⟨b, 5, none⟩ = some c5 ∧ w.cell? ⟨b, 6, none⟩ = some c6 ∧ w.cell? ⟨b, 7, none⟩ = some c7 := ⟨h.at 0 rfl, h.at 1 rfl, h.at 2 rfl, h.at 3 rfl, h.at 4 rfl, h.at 5 rfl, h.at 6 rfl, h.at 7 rfl⟩
theorem Blk.a9 (h : Blk w b (c0 :: c1 :: c2 :: c3 :: c4 :: c5 :: c6 :: c7 :: c8 :: l)) : w.cell? ⟨b, 0, none⟩ = some c0 ∧ w.cell? ⟨b, 1, none⟩ = some c1 ∧ w.cell? ⟨b, 2, none⟩ = some c2 ∧ w.cell? ⟨b, 3, none⟩ = some c3 ∧ w.cell? ⟨b, 4, none⟩ = some c4 ∧ w.cell? ⟨b, 5, none⟩ = some c5 ∧ w.cell? ⟨b, 6, none⟩ = some c6 ∧ w.cell? ⟨b, 7, none⟩ = some c7 ∧ w.cell? ⟨b, 8, none⟩ = some c8 := ⟨h.at 0 rfl, h.at 1 rfl, h.at 2 rfl, h.at 3 rfl, h.at 4 rfl, h.at 5 rfl, h.at 6 rfl, h.at 7 rfl, h.at 8 rfl⟩
theorem Blk.a10 (h : Blk w b (c0 :: c1 :: c2 :: c3 :: c4 :: c5 :: c6 :: c7 :: c8 :: c9 :: l)) : w.cell? ⟨b, 0, none⟩ = some c0 ∧ w.cell? ⟨b, 1, none⟩ = some c1 ∧ w.cell? ⟨b, 2, none⟩ = some c2 ∧ w.cell? ⟨b, 3, none⟩ = some c3 ∧ w.cell? ⟨b, 4, none⟩ = some c4 ∧ w.cell? ⟨b, 5, none⟩ = some c5 ∧ w.cell? ⟨b, 6, none⟩ = some c6 ∧ w.cell? ⟨b, 7, none⟩ = some c7 ∧ w.cell? ⟨b, 8, none⟩ = some c8 ∧ w.cell? ⟨b, 9, none⟩ = some c9 := ⟨h.at 0 rfl, h.at 1 rfl, h.at 2 rfl, h.at 3 rfl, h.at 4 rfl, h.at 5 rfl, h.at 6 rfl, h.at 7 rfl, h.at 8 rfl, h.at 9 rfl⟩
theorem Blk.a11 (h : Blk w b (c0 :: c1 :: c2 :: c3 :: c4 :: c5 :: c6 :: c7 :: c8 :: c9 :: c10 :: l)) : w.cell? ⟨b, 0, none⟩ = some c0 ∧ w.cell? ⟨b, 1, none⟩ = some c1 ∧ w.cell? ⟨b, 2, none⟩ = some c2 ∧ w.cell? ⟨b, 3, none⟩ = some c3 ∧ w.cell? ⟨b, 4, none⟩ = some c4 ∧ w.cell? ⟨b, 5, none⟩ = some c5 ∧ w.cell? ⟨b, 6, none⟩ = some c6 ∧ w.cell? ⟨b, 7, none⟩ = some c7 ∧ w.cell? ⟨b, 8, none⟩ = some c8 ∧ w.cell? ⟨b, 9, none⟩ = some c9 ∧ w.cell? ⟨b, 10, none⟩ = some c10 := ⟨h.at 0 rfl, h.at 1 rfl, h.at 2 rfl, h.at 3 rfl, h.at 4 rfl, h.at 5 rfl, h.at 6 rfl, h.at 7 rfl, h.at 8 rfl, h.at 9 rfl, h.at 10 rfl⟩
theorem Blk.a12 (h : Blk w b (c0 :: c1 :: c2 :: c3 :: c4 :: c5 :: c6 :: c7 :: c8 :: c9 :: c10 :: c11 :: l)) : w.cell? ⟨b, 0, none⟩ = some c0 ∧ w.cell? ⟨b, 1, none⟩ = some c1 ∧ w.cell? ⟨b, 2, none⟩ = some c2 ∧ w.cell? ⟨b, 3, none⟩ = some c3 ∧ w.cell? ⟨b, 4, none⟩ = some c4 ∧ w.cell? ⟨b, 5, none⟩ = some c5 ∧ w.cell? ⟨b, 6, none⟩ = some c6 ∧ w.cell? ⟨b, 7, none⟩ = some c7 ∧ w.cell? ⟨b, 8, none⟩ = some c8 ∧ w.cell? ⟨b, 9, none⟩ = some c9 ∧ w.cell? ⟨b, 10, none⟩ = some c10 ∧ w.cell? ⟨b, 11, none⟩ = some c11 := ⟨h.at 0 rfl, h.at 1 rfl, h.at 2 rfl, h.at 3 rfl, h.at 4 rfl, h.at 5 rfl, h.at 6 rfl, h.at 7 rfl, h.at 8 rfl, h.at 9 rfl, h.at 10 rfl, h.at 11 rfl⟩
theorem Blk.f2 {L : List Value} (h : Blk w b L) : w.frozen? ⟨b, 0, none⟩ = false ∧ w.frozen? ⟨b, 1, none⟩ = false := ⟨h.frozen 0, h.frozen 1⟩
theorem Blk.f3 {L : List Value} (h : Blk w b L) : w.frozen? ⟨b, 0, none⟩ = false ∧ w.frozen? ⟨b, 1, none⟩ = false ∧ w.frozen? ⟨b, 2, none⟩ = false := ⟨h.frozen 0, h.frozen 1, h.frozen 2⟩
theorem Blk.f4 {L : List Value} (h : Blk w b L) : w.frozen? ⟨b, 0, none⟩ = false ∧ w.frozen? ⟨b, 1, none⟩ = false ∧ w.frozen? ⟨b, 2, none⟩ = false ∧ w.frozen? ⟨b, 3, none⟩ = false := ⟨h.frozen 0, h.frozen 1, h.frozen 2, h.frozen 3⟩
theorem Blk.f5 {L : List Value} (h : Blk w b L) : w.frozen? ⟨b, 0, none⟩ = false ∧ w.frozen? ⟨b, 1, none⟩ = false ∧ w.frozen? ⟨b, 2, none⟩ = false ∧ w.frozen? ⟨b, 3, none⟩ = false ∧ w.frozen? ⟨b, 4, none⟩ = false := ⟨h.frozen 0, h.frozen 1, h.frozen 2, h.frozen 3, h.frozen 4⟩
theorem Blk.f6 {L : List Value} (h : Blk w b L) : w.frozen? ⟨b, 0, none⟩ = false ∧ w.frozen? ⟨b, 1, none⟩ = false ∧ w.frozen? ⟨b, 2, none⟩ = false ∧ w.frozen? ⟨b, 3, none⟩ = false ∧ w.frozen? ⟨b, 4, none⟩ = false ∧ w.frozen? ⟨b, 5, none⟩ = false := ⟨h.frozen 0, h.frozen 1, h.frozen 2, h.frozen 3, h.frozen 4, h.frozen 5⟩
theorem Blk.f7 {L : List Value} (h : Blk w b L) : w.frozen? ⟨b, 0, none⟩ = false ∧ w.frozen? ⟨b, 1, none⟩ = false ∧ w.frozen? ⟨b, 2, none⟩ = false ∧ w.frozen? ⟨b, 3, none⟩ = false ∧ w.frozen? ⟨b, 4, none⟩ = false ∧ w.frozen? ⟨b, 5, none⟩ = false ∧ w.frozen? ⟨b, 6, none⟩ = false := ⟨h.frozen 0, h.frozen 1, h.frozen 2, h.frozen 3, h.frozen 4, h.frozen 5, h.frozen 6⟩
theorem Blk.f8 {L : List Value} (h : Blk w b L) : w.frozen? ⟨b, 0, none⟩ = false ∧ w.frozen? ⟨b, 1, none⟩ = false ∧ w.frozen? ⟨b, 2, none⟩ = false ∧ w.frozen? ⟨b, 3, none⟩ = false ∧ w.frozen? ⟨b, 4, none⟩ = false ∧ w.frozen? ⟨b, 5, none⟩ = false ∧ w.frozen? ⟨b, 6, none⟩ = false ∧ w.frozen? ⟨b, 7, none⟩ = false := ⟨h.frozen 0, h.frozen 1, h.frozen 2, h.frozen 3, h.frozen 4, h.frozen 5, h.frozen 6, h.frozen 7⟩
theorem Blk.f9 {L : List Value} (h : Blk w b L) : w.frozen? ⟨b, 0, none⟩ = false ∧ w.frozen? ⟨b, 1, none⟩ = false ∧ w.frozen? ⟨b, 2, none⟩ = false ∧ w.frozen? ⟨b, 3, none⟩ = false ∧ w.frozen? ⟨b, 4, none⟩ = false ∧ w.frozen? ⟨b, 5, none⟩ = false ∧ w.frozen? ⟨b, 6, none⟩ = false ∧ w.frozen? ⟨b, 7, none⟩ = false ∧ w.frozen? ⟨b, 8, none⟩ = false := ⟨h.frozen 0, h.frozen 1, h.frozen 2, h.frozen 3, h.frozen 4, h.frozen 5, h.frozen 6, h.frozen 7, h.frozen 8⟩
theorem Blk.f10 {L : List Value} (h : Blk w b L) : w.frozen? ⟨b, 0, none⟩ = false ∧ w.frozen? ⟨b, 1, none⟩ = false ∧ w.frozen? ⟨b, 2, none⟩ = false ∧ w.frozen? ⟨b, 3, none⟩ = false ∧ w.frozen? ⟨b, 4, none⟩ = false ∧ w.frozen? ⟨b, 5, none⟩ = false ∧ w.frozen? ⟨b, 6, none⟩ = false ∧ w.frozen? ⟨b, 7, none⟩ = false ∧ w.frozen? ⟨b, 8, none⟩ = false ∧ w.frozen? ⟨b, 9, none⟩ = false := ⟨h.frozen 0, h.frozen 1, h.frozen 2, h.frozen 3, h.frozen 4, h.frozen 5, h.frozen 6, h.frozen 7, h.frozen 8, h.frozen 9⟩
end Go.Proofs.YtgnaifhmcllnlaaGreatDoor
namespace Go.Proofs.YtgnaifhmcllnlaaGreatDoor
open Tryz
inductive V where
 | mk (k n : Int) (s : ByteArray) (ks : List ByteArray) (l : List V)
def V.kind : V → Int | .mk k _ _ _ _ => k
def V.num : V → Int | .mk _ n _ _ _ => n
def V.str : V → ByteArray | .mk _ _ s _ _ => s
def V.keys : V → List ByteArray | .mk _ _ _ ks _ => ks
def V.list : V → List V | .mk _ _ _ _ l => l
theorem V.ind {P : V → Prop} (h : ∀ k n s ks l, (∀ t ∈ l, P t) → P (.mk k n s ks l)) : ∀ t, P t
 | .mk k n s ks l => h k n s ks l (fun t _ => V.ind h t)
mutual
def V.cnt : V → Int → Int
 | .mk _ _ _ _ l, n => V.cntL l (n - 1)
def V.cntL : List V → Int → Int
 | [], n => n
 | x :: xs, n => if n < 0 then n else V.cntL xs (V.cnt x n)
end
def V.deep : Nat → V → Bool
 | 0, _ => true
 | d + 1, .mk _ _ _ _ l => l.any (V.deep d)
def ctB (r : List UInt8) (k lo hi : Nat) : Bool := match r[k]? with | some d => decide (lo ≤ d.toNat) && decide (d.toNat ≤ hi) | none => false
def u8n (l : List UInt8) : Nat :=
 match l with
 | [] => 0
 | b0 :: r =>
  if b0.toNat < 128 then 1
  else if 194 ≤ b0.toNat ∧ b0.toNat ≤ 223 then (if ctB r 0 128 191 then 2 else 0)
  else if 224 ≤ b0.toNat ∧ b0.toNat ≤ 239 then (if ctB r 0 (if b0.toNat = 224 then 160 else 128) (if b0.toNat = 237 then 159 else 191) && ctB r 1 128 191 then 3 else 0)
  else if 240 ≤ b0.toNat ∧ b0.toNat ≤ 244 then (if ctB r 0 (if b0.toNat = 240 then 144 else 128) (if b0.toNat = 244 then 143 else 191) && ctB r 1 128 191 && ctB r 2 128 191 then 4 else 0)
  else 0
def u8F : Nat → List UInt8 → Bool
 | _, [] => true
 | 0, _ :: _ => false
 | f + 1, b :: r => if u8n (b :: r) = 0 then false else u8F f ((b :: r).drop (u8n (b :: r)))
def u8 (l : List UInt8) : Bool := u8F l.length l
def u8s (s : ByteArray) : Bool := u8 s.data.toList
theorem asd {b : UInt8} {r : List UInt8} (h : u8n (b :: r) ≠ 0) : 1 ≤ u8n (b :: r) := by omega
theorem apu : ∀ (f g : Nat) (l : List UInt8), l.length ≤ f → l.length ≤ g → u8F f l = u8F g l
 | f, g, [], _, _ => by cases f <;> cases g <;> rfl
 | 0, _, b :: r, h, _ => by simp at h
 | f + 1, 0, b :: r, _, h => by simp at h
 | f + 1, g + 1, b :: r, h, k => by
  unfold u8F; split
  ·rfl
  ·rename_i hn
   refine apu f g _ ?_ ?_ <;> · have := asd hn; simp only [List.length_drop, jn] at *; omega
theorem bcm {b : UInt8} {r : List UInt8} (h : u8n (b :: r) = 0) : u8 (b :: r) = false := by
 unfold u8; rw [jn]; unfold u8F; rw [qw h]
theorem bar {b : UInt8} {r : List UInt8} (h : u8n (b :: r) ≠ 0) : u8 (b :: r) = u8 ((b :: r).drop (u8n (b :: r))) := by
 unfold u8; rw [jn]; conv => lhs; unfold u8F
 rw [qk h]
 exact apu _ _ _ (by have := asd h; simp only [List.length_drop, jn]; omega) (qj _)
def akp (s : ByteArray) : Bool := decide (1 ≤ s.size) && decide (s.size ≤ 255) && u8s s
def ae1 : List ByteArray → Bool
 | [] => true
 | k :: ks => akp k && !(ks.any (fun x => x.toList == k.toList)) && ae1 ks
def aaw (k n : Int) (s : ByteArray) (ks : List ByteArray) (len : Nat) : Bool :=
 (k == 168 || ks.isEmpty) && (k == 168 || k == 169 || len == 0) &&
 (if k = 240 then n == 0 && s.size == 0
  else if k = 8 then decide (n ≤ 1) && s.size == 0
  else if k = 2 then decide (n ≤ 255) && s.size == 0
  else if k = 49 ∨ k = 50 then s.size == 0
  else if k = 149 then n == 0 && decide (s.size ≤ 4096) && u8s s
  else if k = 160 then n == 0 && decide (s.size ≤ 4096)
  else if k = 168 then ks.length == len && ae1 ks && n == 0 && s.size == 0
  else if k = 169 then n == 0 && s.size == 0
  else false)
mutual
def V.may : V → Bool
 | .mk k n s ks l => aaw k n s ks l.length && V.mayL l
def V.mayL : List V → Bool
 | [] => true
 | x :: xs => V.may x && V.mayL xs
end
def V.chk (v : V) : Int := if v.deep 6 then 51 else if v.cnt 200 < 0 then 3 else if v.may then 0 else 50
def be : Nat → Nat → List UInt8
 | 0, _ => []
 | w + 1, n => be w (n / 256) ++ [UInt8.ofNat (n % 256)]
def aoc (l : List UInt8) : Nat := l.foldl (fun n c => 256 * n + c.toNat) 0
theorem aao : ∀ (w n : Nat), (be w n).length = w
 | 0, _ => rfl
 | w + 1, n => by unfold be; rw [jz, aao w]; rfl
theorem agv (l : List UInt8) (c : UInt8) : aoc (l ++ [c]) = 256 * aoc l + c.toNat := by unfold aoc; rw [List.foldl_append]; rfl
theorem ase : ∀ (w n : Nat), n < 256 ^ w → aoc (be w n) = n
 | 0, n, h => by have : n = 0 := by simpa using h
                 subst this; rfl
 | w + 1, n, h => by
  unfold be; have A : n / 256 < 256 ^ w := by rw [Nat.pow_succ] at h; exact Nat.div_lt_of_lt_mul (by omega)
  rw [agv, ase w _ A, UInt8.toNat_ofNat']; omega
theorem asf : ∀ (l : List UInt8), aoc l < 256 ^ l.length := by
 intro l
 induction h : l.length generalizing l with
 | zero => have : l = [] := List.length_eq_zero_iff.1 h
           subst this; decide
 | succ n ih =>
  obtain ⟨q, c, rfl⟩ : ∃ q c, l = q ++ [c] := ⟨l.dropLast, l.getLast (fun e => by rw [e] at h; simp at h), (List.dropLast_concat_getLast _).symm⟩
  have A : q.length = n := by simpa using h
  have := ih q A; rw [agv, Nat.pow_succ]; have D : c.toNat < 256 := c.toNat_lt; omega
theorem asg : ∀ (w : Nat) (l : List UInt8), l.length = w → be w (aoc l) = l
 | 0, l, h => by have : l = [] := List.length_eq_zero_iff.1 h
                 subst this; rfl
 | w + 1, l, h => by
  obtain ⟨q, c, rfl⟩ : ∃ q c, l = q ++ [c] := ⟨l.dropLast, l.getLast (fun e => by rw [e] at h; simp at h), (List.dropLast_concat_getLast _).symm⟩
  have A : q.length = w := by simpa using h
  have D : c.toNat < 256 := c.toNat_lt; unfold be; rw [agv, show (256 * aoc q + c.toNat) / 256 = aoc q by omega, show (256 * aoc q + c.toNat) % 256 = c.toNat by omega, asg w q A]; simp
mutual
def V.bytes : V → List UInt8
 | .mk k n s ks l => UInt8.ofNat k.toNat ::
  (if k = 8 ∨ k = 2 then be 1 n.toNat
   else if k = 49 ∨ k = 50 then be 8 n.toNat
   else if k = 149 then be 2 s.size ++ s.data.toList
   else if k = 160 then be 4 s.size ++ s.data.toList
   else if k = 240 then []
   else be 4 (4 + (V.bytesL (k == 168) ks l).length) ++ (be 4 l.length ++ V.bytesL (k == 168) ks l))
def V.bytesL (m : Bool) : List ByteArray → List V → List UInt8
 | _, [] => []
 | ks, x :: xs => (if m then be 1 (ks.headD ByteArray.empty).size ++ (ks.headD ByteArray.empty).data.toList else []) ++ (V.bytes x ++ V.bytesL m ks.tail xs)
end
def gN (w : Nat) (b : List UInt8) : Option (Nat × List UInt8) := if w ≤ b.length then some (aoc (b.take w), b.drop w) else none
def gT (w most : Nat) (b : List UInt8) : Option (ByteArray × List UInt8) :=
 (gN w b).bind fun (n, r) => if n ≤ most ∧ n ≤ r.length then some (⟨(r.take n).toArray⟩, r.drop n) else none
def abk (f : Int → List UInt8 → Option (V × Int × List UInt8)) (m : Bool) : Nat → Int → List UInt8 → Option (List ByteArray × List V × Int × List UInt8)
 | 0, left, b => some ([], [], left, b)
 | n + 1, left, b =>
  (if m then gT 1 255 b else some (ByteArray.empty, b)).bind fun (key, b1) =>
  (f left b1).bind fun (x, left1, b2) =>
  (abk f m n left1 b2).bind fun (ks, l, left2, b3) => some (if m then key :: ks else ks, x :: l, left2, b3)
def rdP : Nat → Int → List UInt8 → Option (V × Int × List UInt8)
 | 0, _, _ => none
 | d + 1, left, b =>
  (gN 1 b).bind fun (k, b1) =>
  if left - 1 < 0 then none else
  if k = 240 then some (.mk k 0 ByteArray.empty [] [], left - 1, b1)
  else if k = 8 ∨ k = 2 then (gN 1 b1).bind fun (n, b2) => some (.mk k n ByteArray.empty [] [], left - 1, b2)
  else if k = 49 ∨ k = 50 then (gN 8 b1).bind fun (n, b2) => some (.mk k n ByteArray.empty [] [], left - 1, b2)
  else if k = 149 then (gT 2 4096 b1).bind fun (s, b2) => some (.mk k 0 s [] [], left - 1, b2)
  else if k = 160 then (gT 4 4096 b1).bind fun (s, b2) => some (.mk k 0 s [] [], left - 1, b2)
  else if k = 168 ∨ k = 169 then
   (gN 4 b1).bind fun (size, b2) => (gN 4 b2).bind fun (n, b3) =>
   if size ≤ b2.length ∧ n < 200 then
    (abk (rdP d) (k == 168) n (left - 1) b3).bind fun (ks, l, left2, b4) => if b2.length - b4.length = size then some (.mk k 0 ByteArray.empty ks l, left2, b4) else none
   else none
  else none
def rdD : Nat → Int → List UInt8 → Option (V × Int × List UInt8)
 | 0, _, _ => none
 | d + 1, left, b =>
  (gN 1 b).bind fun (k, b1) =>
  if left - 1 < 0 then none else
  if k = 8 ∨ k = 2 then (gN 1 b1).bind fun (n, b2) => some (.mk k n ByteArray.empty [] [], left - 1, b2)
  else if k = 49 ∨ k = 50 then (gN 8 b1).bind fun (n, b2) => some (.mk k n ByteArray.empty [] [], left - 1, b2)
  else if k = 149 then (gT 2 4096 b1).bind fun (s, b2) => some (.mk k 0 s [] [], left - 1, b2)
  else if k = 160 then (gT 4 4096 b1).bind fun (s, b2) => some (.mk k 0 s [] [], left - 1, b2)
  else if k = 168 ∨ k = 169 then
   (gN 4 b1).bind fun (_, b2) => (gN 4 b2).bind fun (n, b3) =>
   (abk (rdD d) (k == 168) (min n 200) (left - 1) b3).bind fun (ks, l, left2, b4) => some (.mk k 0 ByteArray.empty ks l, left2, b4)
  else some (.mk k 0 ByteArray.empty [] [], left - 1, b1)
def ako (b : List UInt8) : Option (V × Nat) :=
 (rdP 6 200 b).bind fun (v, _, r) => if v.chk = 0 then some (v, b.length - r.length) else none
def getD (b : List UInt8) : Option (V × Nat) :=
 (rdD 6 200 b).bind fun (v, _, _) => if v.chk = 0 ∧ v.bytes <+: b then some (v, v.bytes.length) else none
theorem akq (w n : Nat) (h : n < 256 ^ w) (r : List UInt8) : gN w (be w n ++ r) = some (n, r) := by
 unfold gN
 rw [qw (by rw [jz, aao]; omega), List.take_left' (aao w n), List.drop_left' (aao w n), ase w n h]
theorem bas (s : ByteArray) : (⟨s.data.toList.toArray⟩ : ByteArray) = s := by rfl
theorem acj (s : ByteArray) : s.data.toList.length = s.size := rfl
theorem apv (w A : Nat) (s : ByteArray) (E : s.size < 256 ^ w) (D : s.size ≤ A) (r : List UInt8) : gT w A (be w s.size ++ (s.data.toList ++ r)) = some (s, r) := by
 unfold gT
 rw [akq w _ E, Option.bind_some]
 show (if s.size ≤ A ∧ s.size ≤ (s.data.toList ++ r).length then _ else none) = _
 rw [qw ⟨D, by rw [jz, acj]; omega⟩, List.take_left' (acj s), List.drop_left' (acj s), bas]
theorem ahy {w n : Nat} {b r : List UInt8} (h : gN w b = some (n, r)) : b = be w n ++ r ∧ n < 256 ^ w := by
 unfold gN at h
 split at h
 ·rename_i hl
  simp only [jy, jm] at h; obtain ⟨rfl, rfl⟩ := h; have A : (b.take w).length = w := by rw [List.length_take]; omega
  refine ⟨by rw [asg w _ A, List.take_append_drop], ?_⟩; have := asf (b.take w); rwa [A] at this
 ·simp at h
theorem apw {w A : Nat} {b r : List UInt8} {s : ByteArray} (h : gT w A b = some (s, r)) : b = be w s.size ++ (s.data.toList ++ r) ∧ s.size ≤ A ∧ s.size < 256 ^ w := by
 unfold gT at h
 rcases hg : gN w b with _ | ⟨n, E⟩
 ·rw [hg] at h; simp at h
 ·rw [hg, Option.bind_some] at h
  have D := ahy hg; dsimp only at h; split at h
  ·rename_i hc
   simp only [jy, jm] at h; obtain ⟨rfl, rfl⟩ := h; have hs : (⟨(E.take n).toArray⟩ : ByteArray).size = n := by simp [ByteArray.size]; omega
   refine ⟨?_, by rw [hs]; exact hc.1, by rw [hs]; exact D.2⟩; rw [hs, List.take_append_drop]; exact D.1
  ·simp at h
theorem ak2 : ∀ (v : V) (n : Int), v.cnt n < n := by
 intro v
 induction v using V.ind with
 | h k n s ks l ih =>
  intro m; unfold V.cnt
  have A : ∀ (l : List V), (∀ t ∈ l, ∀ n : Int, t.cnt n < n) → ∀ m : Int, V.cntL l m ≤ m := by
   intro l
   induction l with
   | nil => intro _ m; unfold V.cntL; omega
   | cons x xs ihx =>
    intro h m; unfold V.cntL; split
    ·omega
    ·have E := h x (List.mem_cons_self ..) m
     have F := ihx (fun t D => h t (List.mem_cons_of_mem _ D)) (x.cnt m); omega
  have := A l ih (m - 1); omega
theorem af4 : ∀ (l : List V) (m : Int), V.cntL l m ≤ m
 | [], m => by unfold V.cntL; omega
 | x :: xs, m => by
  unfold V.cntL; split
  ·omega
  ·have A := ak2 x m
   have D := af4 xs (x.cnt m); omega
theorem apx (l : List V) {m : Int} (h : m < 0) : V.cntL l m = m := by cases l <;> unfold V.cntL <;> simp [h]
theorem ax5 {k n : Int} {s : ByteArray} {ks : List ByteArray} {l : List V} (h : (V.mk k n s ks l).may = true) : aaw k n s ks l.length = true ∧ V.mayL l = true := by
 unfold V.may at h; simpa using h
theorem agw {l : List V} (h : V.mayL l = true) : ∀ t ∈ l, t.may = true := by
 induction l with
 | nil => intro t A; simp at A
 | cons x xs ih =>
  unfold V.mayL at h; simp only [jj] at h; intro t A; rcases List.mem_cons.1 A with rfl | A
  ·exact h.1
  ·exact ih h.2 t A
theorem ahd {ks : List ByteArray} (h : ae1 ks = true) : ∀ k ∈ ks, 1 ≤ k.size ∧ k.size ≤ 255 := by
 induction ks with
 | nil => intro k A; simp at A
 | cons x xs ih =>
  unfold ae1 at h; simp only [jj] at h; intro k A; rcases List.mem_cons.1 A with rfl | A
  ·have := h.1.1; unfold akp at this; simp only [jj, qm] at this; exact this.1
  ·exact ih h.2 k A
theorem adg {k n : Int} {s : ByteArray} {ks : List ByteArray} {len : Nat} (h : aaw k n s ks len = true) :
 (k = 240 ∧ n = 0 ∧ s.size = 0 ∧ ks = [] ∧ len = 0) ∨ (k = 8 ∧ n ≤ 1 ∧ s.size = 0 ∧ ks = [] ∧ len = 0) ∨ (k = 2 ∧ n ≤ 255 ∧ s.size = 0 ∧ ks = [] ∧ len = 0) ∨
 ((k = 49 ∨ k = 50) ∧ s.size = 0 ∧ ks = [] ∧ len = 0) ∨ (k = 149 ∧ n = 0 ∧ s.size ≤ 4096 ∧ u8s s = true ∧ ks = [] ∧ len = 0) ∨ (k = 160 ∧ n = 0 ∧ s.size ≤ 4096 ∧ ks = [] ∧ len = 0) ∨
 (k = 168 ∧ n = 0 ∧ s.size = 0 ∧ ks.length = len ∧ ae1 ks = true) ∨ (k = 169 ∧ n = 0 ∧ s.size = 0 ∧ ks = []) := by
 unfold aaw at h
 simp only [jj, Bool.or_eq_true, beq_iff_eq, List.isEmpty_iff] at h
 obtain ⟨⟨I, H⟩, A⟩ := h
 have D : k ≠ 168 → ks = [] := fun G => I.resolve_left G
 have E : k ≠ 168 → k ≠ 169 → len = 0 := fun a b => by rcases H with (h | h) | h; exact jp h a; exact jp h b; exact h
 by_cases F : k = 240
 ·rw [qw F] at A; simp only [jj, beq_iff_eq] at A; exact .inl ⟨F, A.1, A.2, D (by omega), E (by omega) (by omega)⟩
 rw [qk F] at A
 by_cases a2 : k = 8
 ·rw [qw a2] at A; simp only [jj, beq_iff_eq, qm] at A; exact .inr (.inl ⟨a2, A.1, A.2, D (by omega), E (by omega) (by omega)⟩)
 rw [qk a2] at A
 by_cases a3 : k = 2
 ·rw [qw a3] at A; simp only [jj, beq_iff_eq, qm] at A; exact .inr (.inr (.inl ⟨a3, A.1, A.2, D (by omega), E (by omega) (by omega)⟩))
 rw [qk a3] at A
 by_cases a4 : k = 49 ∨ k = 50
 ·rw [qw a4] at A; simp only [beq_iff_eq] at A; exact .inr (.inr (.inr (.inl ⟨a4, A, D (by omega), E (by omega) (by omega)⟩)))
 rw [qk a4] at A
 by_cases a5 : k = 149
 ·rw [qw a5] at A; simp only [jj, beq_iff_eq, qm] at A; exact .inr (.inr (.inr (.inr (.inl ⟨a5, A.1.1, A.1.2, A.2, D (by omega), E (by omega) (by omega)⟩))))
 rw [qk a5] at A
 by_cases a6 : k = 160
 ·rw [qw a6] at A; simp only [jj, beq_iff_eq, qm] at A; exact .inr (.inr (.inr (.inr (.inr (.inl ⟨a6, A.1, A.2, D (by omega), E (by omega) (by omega)⟩)))))
 rw [qk a6] at A
 by_cases a7 : k = 168
 ·rw [qw a7] at A; simp only [jj, beq_iff_eq] at A; exact .inr (.inr (.inr (.inr (.inr (.inr (.inl ⟨a7, A.1.2, A.2, A.1.1.1, A.1.1.2⟩))))))
 rw [qk a7] at A
 by_cases a8 : k = 169
 ·rw [qw a8] at A; simp only [jj, beq_iff_eq] at A; exact .inr (.inr (.inr (.inr (.inr (.inr (.inr ⟨a8, A.1, A.2, D a7⟩))))))
 rw [qk a8] at A; exact jp A (by simp)
inductive V.Wf : V → Prop
 | mk {k n : Int} {s : ByteArray} {ks : List ByteArray} {l : List V} : 0 ≤ n → n < 18446744073709551616 → 0 ≤ k → k < 256 → (∀ t ∈ l, V.Wf t) → V.Wf (.mk k n s ks l)
theorem V.Wf.inv {k n : Int} {s : ByteArray} {ks : List ByteArray} {l : List V} (h : V.Wf (.mk k n s ks l)) : 0 ≤ n ∧ n < 18446744073709551616 ∧ 0 ≤ k ∧ k < 256 ∧ ∀ t ∈ l, V.Wf t := by
 cases h with | mk a b c d e => exact ⟨a, b, c, d, e⟩
theorem ahe (m : Bool) : ∀ (l : List V) (ks : List ByteArray) (left : Int), (∀ t ∈ l, ∀ left : Int, 0 ≤ t.cnt left → (t.bytes.length : Int) + 256 ≤ 5000 * (left - t.cnt left)) →
 (m = true → ∀ k ∈ ks, k.size ≤ 255) → 0 ≤ V.cntL l left → ((V.bytesL m ks l).length : Int) ≤ 5000 * (left - V.cntL l left)
 | [], ks, left, _, _, _ => by unfold V.bytesL V.cntL; simp
 | x :: xs, ks, left, hx, hk, hc => by
  unfold V.cntL at hc ⊢; by_cases D : left < 0
  ·rw [qw D] at hc; omega
  ·rw [qk D] at hc ⊢
   unfold V.bytesL; have G := hx x (List.mem_cons_self ..) left (by have := af4 xs (x.cnt left); omega); have H := ahe m xs ks.tail (x.cnt left) (fun t F => hx t (List.mem_cons_of_mem _ F)) (fun A k E => hk A k (List.mem_of_mem_tail E)) hc
   have I : ((if m = true then be 1 (ks.headD ByteArray.empty).size ++ (ks.headD ByteArray.empty).data.toList else []).length : Int) ≤ 256 := by
    split
    ·rename_i A
     rw [jz, aao, acj]
     have : (ks.headD ByteArray.empty).size ≤ 255 := by
      cases ks with
      | nil => simp
      | cons a az => exact hk A a (List.mem_cons_self ..)
     omega
    ·simp
   rw [jz, jz]
   push_cast at *
   omega
theorem aiv : ∀ (v : V), v.may = true → ∀ left : Int, 0 ≤ v.cnt left → (v.bytes.length : Int) + 256 ≤ 5000 * (left - v.cnt left) := by
 intro v
 induction v using V.ind with
 | h k n s ks l ih =>
  intro J left hc; obtain ⟨K, I⟩ := ax5 J; have N := hc; unfold V.cnt at hc ⊢; have M := af4 l (left - 1); have G : (∀ A ∈ ks, A.size ≤ 255) → ((V.bytesL (k == 168) ks l).length : Int) ≤ 5000 * (left - 1 - V.cntL l (left - 1)) := fun H => ahe _ l ks (left - 1) (fun t F => ih t F (agw I t F)) (fun _ => H) hc
  have O := acj s; unfold V.bytes; rcases adg K with h | h | h | h | h | h | h | h
  ·obtain ⟨rfl, -⟩ := h; simp; omega
  ·obtain ⟨rfl, -⟩ := h; simp [aao]; omega
  ·obtain ⟨rfl, -⟩ := h; simp [aao]; omega
  ·obtain ⟨rfl | rfl, -⟩ := h <;> (simp [aao]; omega)
  ·obtain ⟨rfl, -, E, -⟩ := h; simp [aao]; omega
  ·obtain ⟨rfl, -, E, -⟩ := h; simp [aao]; omega
  ·obtain ⟨rfl, -, -, -, E⟩ := h
   have := G (fun A D => (ahd E A D).2); simp [aao] at this ⊢; omega
  ·obtain ⟨rfl, -, -, rfl⟩ := h
   have := G (fun A D => by simp at D); simp [aao] at this ⊢; omega
theorem apy (l : List V) (m : Int) (h : 0 ≤ V.cntL l m) : (l.length : Int) ≤ m - V.cntL l m := by
 induction l generalizing m with
 | nil => unfold V.cntL; simp
 | cons x xs ih =>
  unfold V.cntL at h ⊢; by_cases A : m < 0
  ·rw [qw A] at h; omega
  ·rw [qk A] at h ⊢
   have := ih _ h; have := ak2 x m; simp only [jn]; push_cast; omega
theorem ak3 (f : Int → List UInt8 → Option (V × Int × List UInt8)) (m : Bool) : ∀ (l : List V) (ks : List ByteArray) (left : Int) (r : List UInt8),
 (∀ t ∈ l, ∀ (left : Int) (r : List UInt8), left ≤ 200 → 0 ≤ t.cnt left → f left (t.bytes ++ r) = some (t, t.cnt left, r)) →
 (m = true → ks.length = l.length ∧ ∀ k ∈ ks, k.size ≤ 255) → (m = false → ks = []) → left ≤ 200 → 0 ≤ V.cntL l left →
 abk f m l.length left (V.bytesL m ks l ++ r) = some (ks, l, V.cntL l left, r)
 | [], ks, left, r, _, A, hk', _, _ => by
  have : ks = [] := by
   cases m
   ·exact hk' rfl
   ·exact List.length_eq_zero_iff.1 (A rfl).1
  subst this; unfold V.bytesL V.cntL abk; simp
 | x :: xs, ks, left, r, hf, A, hk', hl, hc => by
  unfold V.cntL at hc ⊢; by_cases H : left < 0
  ·rw [qw H] at hc; omega
  ·rw [qk H] at hc ⊢
   have W := ak2 x left; have U := af4 xs (x.cnt left); have I := hf x (List.mem_cons_self ..) left; have G := fun J M N => ak3 f m xs J (x.cnt left) r (fun t O => hf t (List.mem_cons_of_mem _ O)) M N (by omega) hc
   unfold V.bytesL; rw [jn]; unfold abk; cases m
   ·obtain rfl := hk' rfl
    have D := G [] (by simp) (fun _ => rfl); simp only [Bool.false_eq_true, ↓reduceIte, List.nil_append, Option.bind_some, List.append_assoc, List.tail_nil]; rw [I _ hl (by omega), Option.bind_some]; dsimp only; rw [D, Option.bind_some]
   ·obtain ⟨F, E⟩ := A rfl
    cases ks with
    | nil => simp at F
    | cons a az =>
     have D := G az (fun _ => ⟨by simpa using F, fun k A => E k (List.mem_cons_of_mem _ A)⟩) (by simp); have K := E a (List.mem_cons_self ..); simp only [↓reduceIte, List.headD_cons, List.tail_cons, List.append_assoc]; rw [apv 1 255 a (by omega) K, Option.bind_some]; dsimp only; rw [I _ hl (by omega), Option.bind_some]; dsimp only; rw [D, Option.bind_some]
theorem avu {d : Nat} {k n : Int} {s : ByteArray} {ks : List ByteArray} {l : List V} (h : (V.mk k n s ks l).deep (d + 1) = false) : ∀ t ∈ l, t.deep d = false := by
 unfold V.deep at h
 intro t A
 have := List.any_eq_false.1 h t A
 simpa using this
theorem ahz (k : Int) (A : 0 ≤ k) (D : k < 256) (r : List UInt8) : gN 1 (UInt8.ofNat k.toNat :: r) = some (k.toNat, r) := by
 have := akq 1 k.toNat (by omega) r
 unfold be at this
 have e : be 0 (k.toNat / 256) = [] := rfl
 rw [e, Nat.mod_eq_of_lt (by omega)] at this
 exact this
theorem af5 {s : ByteArray} (h : s.size = 0) : s = ByteArray.empty := by
 obtain ⟨d⟩ := s
 have : d = #[] := Array.eq_empty_of_size_eq_zero h
 subst this; rfl
theorem ash : ∀ (d : Nat) (v : V) (left : Int) (r : List UInt8), v.Wf → v.deep d = false → v.may = true → left ≤ 200 → 0 ≤ v.cnt left → rdP d left (v.bytes ++ r) = some (v, v.cnt left, r)
 | 0, v, _, _, _, hd, _, _, _ => by cases v; unfold V.deep at hd; simp at hd
 | d + 1, .mk k n s ks l, left, r, hw, hd, hm, X, H => by
  obtain ⟨hh, Y⟩ := ax5 hm; obtain ⟨n0, n1, -, -, aa⟩ := hw.inv; have Z := avu hd; have ad := H; have O := fun (h : ∀ G ∈ ks, G.size ≤ 255) => ahe (k == 168) l ks (left - 1) (fun t J => aiv t (agw Y t J)) (fun _ => h) (by unfold V.cnt at H; exact H)
  unfold V.cnt at H ⊢; have ac := af4 l (left - 1); have ab := apy l (left - 1) H
  have U := fun (E : (k == 168) = true → ks.length = l.length ∧ ∀ G ∈ ks, G.size ≤ 255) (D : (k == 168) = false → ks = []) =>
   ak3 (rdP d) (k == 168) l ks (left - 1) r (fun t J left r X H => ash d t left r (aa t J) (Z t J) (agw Y t J) X H) E D (by omega) H
  unfold V.bytes rdP; have F : ¬ left - 1 < 0 := by omega
  rcases adg hh with h | h | h | h | h | h | h | h
  ·obtain ⟨rfl, rfl, D, rfl, A⟩ := h
   obtain rfl := List.length_eq_zero_iff.1 A; obtain rfl := af5 D; rw [List.cons_append, ahz _ (by omega) (by omega), Option.bind_some]; simp [F]; unfold V.cntL; rfl
  ·obtain ⟨rfl, E, D, rfl, A⟩ := h
   obtain rfl := List.length_eq_zero_iff.1 A; obtain rfl := af5 D; rw [List.cons_append, ahz _ (by omega) (by omega), Option.bind_some]; have := akq 1 n.toNat (by omega) r; simp [F, this, Int.toNat_of_nonneg n0]; unfold V.cntL; rfl
  ·obtain ⟨rfl, E, D, rfl, A⟩ := h
   obtain rfl := List.length_eq_zero_iff.1 A; obtain rfl := af5 D; rw [List.cons_append, ahz _ (by omega) (by omega), Option.bind_some]; have := akq 1 n.toNat (by omega) r; simp [F, this, Int.toNat_of_nonneg n0]; unfold V.cntL; rfl
  ·obtain ⟨hk, D, rfl, A⟩ := h
   obtain rfl := List.length_eq_zero_iff.1 A; obtain rfl := af5 D; have := akq 8 n.toNat (by omega) r; rcases hk with rfl | rfl
   all_goals
    rw [List.cons_append, ahz _ (by omega) (by omega), Option.bind_some]; simp [F, this, Int.toNat_of_nonneg n0]; unfold V.cntL; rfl
  ·obtain ⟨rfl, rfl, E, -, rfl, A⟩ := h
   obtain rfl := List.length_eq_zero_iff.1 A; rw [List.cons_append, ahz _ (by omega) (by omega), Option.bind_some]; have := apv 2 4096 s (by omega) E r; simp [F, this]; unfold V.cntL; rfl
  ·obtain ⟨rfl, rfl, E, rfl, A⟩ := h
   obtain rfl := List.length_eq_zero_iff.1 A; rw [List.cons_append, ahz _ (by omega) (by omega), Option.bind_some]; have := apv 4 4096 s (by omega) E r; simp [F, this]; unfold V.cntL; rfl
  ·obtain ⟨rfl, rfl, E, D, A⟩ := h
   obtain rfl := af5 E; have W := ahd A; have K := O (fun G I => (W G I).2); have hs := U (fun _ => ⟨D, fun G I => (W G I).2⟩) (by simp); rw [List.cons_append, ahz _ (by omega) (by omega), Option.bind_some]; have N := akq 4 (4 + (V.bytesL true ks l).length) (by simp at K; omega) (be 4 l.length ++ (V.bytesL true ks l ++ r)); have M := akq 4 l.length (by omega) (V.bytesL true ks l ++ r); simp at hs K; have e1 : ((be 4 l.length ++ (V.bytesL true ks l ++ r)).length) - r.length = 4 + (V.bytesL true ks l).length := by simp [aao]; omega
   have e2 : 4 + (V.bytesL true ks l).length ≤ (be 4 l.length ++ (V.bytesL true ks l ++ r)).length ∧ l.length < 200 := ⟨by simp [aao], by omega⟩; simp [F, N, M, hs, aao] at e1 e2 ⊢; omega
  ·obtain ⟨rfl, rfl, E, rfl⟩ := h
   obtain rfl := af5 E; have K := O (fun G I => by simp at I); have hs := U (by simp) (fun _ => rfl); rw [List.cons_append, ahz _ (by omega) (by omega), Option.bind_some]; have N := akq 4 (4 + (V.bytesL false [] l).length) (by simp at K; omega) (be 4 l.length ++ (V.bytesL false [] l ++ r)); have M := akq 4 l.length (by omega) (V.bytesL false [] l ++ r); simp at hs K; simp [F, N, M, hs, aao]; omega
theorem aah {α A : Type} {o : Option α} {f : α → Option A} {y : A} (h : o.bind f = some y) : ∃ x, o = some x ∧ f x = some y := by
 cases o with
 | none => simp at h
 | some x => exact ⟨x, rfl, h⟩
theorem ak4 (f : Int → List UInt8 → Option (V × Int × List UInt8)) (m : Bool) (G : ∀ left b x N K, f left b = some (x, N, K) → b = x.bytes ++ K ∧ x.Wf) :
 ∀ (n : Nat) (left : Int) (b : List UInt8) (ks : List ByteArray) (l : List V) (E : Int) (r : List UInt8), abk f m n left b = some (ks, l, E, r) →
 b = V.bytesL m ks l ++ r ∧ l.length = n ∧ (m = false → ks = []) ∧ ∀ t ∈ l, t.Wf
 | 0, left, b, ks, l, E, r, h => by
  unfold abk at h; simp only [jy, jm] at h; obtain ⟨rfl, rfl, rfl, rfl⟩ := h; refine ⟨by unfold V.bytesL; rfl, rfl, fun _ => rfl, by simp⟩
 | n + 1, left, b, ks, l, E, r, h => by
  unfold abk at h; obtain ⟨⟨key, b1⟩, D, h⟩ := aah h; obtain ⟨⟨x, aa, b2⟩, O, h⟩ := aah h; obtain ⟨⟨ac, Y, ab, b3⟩, X, h⟩ := aah h; simp only [jy, jm] at h; obtain ⟨A, rfl, rfl, rfl⟩ := h; obtain ⟨H, U⟩ := G _ _ _ _ _ O; obtain ⟨I, J, W, Z⟩ := ak4 f m G n _ _ _ _ _ _ X
  have M : ∀ t ∈ x :: Y, t.Wf := fun t F => by
   rcases List.mem_cons.1 F with rfl | F
   ·exact U
   ·exact Z t F
  unfold V.bytesL; cases m
  ·simp only [Bool.false_eq_true, ↓reduceIte, jy, jm] at D A
   obtain ⟨-, rfl⟩ := D; subst A; obtain rfl := W rfl; refine ⟨by rw [H, I]; simp, by simp [J], fun _ => rfl, M⟩
  ·simp only [↓reduceIte] at D A
   subst A; obtain ⟨e1, -, -⟩ := apw D; refine ⟨by rw [e1, H, I]; simp, by simp [J], by simp, M⟩
theorem avv {k : Nat} {b A : List UInt8} (h : gN 1 b = some (k, A)) : b = UInt8.ofNat k :: A ∧ k < 256 := by
 obtain ⟨E, D⟩ := ahy h
 refine ⟨?_, D⟩
 rw [E]; unfold be
 rw [Nat.mod_eq_of_lt (by omega)]; rfl
theorem aog : ∀ (d : Nat) (left : Int) (b : List UInt8) (v : V) (I : Int) (r : List UInt8), rdP d left b = some (v, I, r) → b = v.bytes ++ r ∧ v.Wf
 | 0, _, _, _, _, _, h => by unfold rdP at h; simp at h
 | d + 1, left, b, v, I, r, h => by
  unfold rdP at h; obtain ⟨⟨k, b1⟩, N, h⟩ := aah h; obtain ⟨E, k1⟩ := avv N; dsimp only at h; have aa : ((k : Int)).toNat = k := by omega
  split at h
  ·simp at h
  split at h
  ·rename_i hk
   simp only [jy, jm] at h; obtain ⟨rfl, -, rfl⟩ := h; obtain rfl : k = 240 := by omega
   exact ⟨by rw [E]; unfold V.bytes; simp, .mk (by omega) (by omega) (by omega) (by omega) (by simp)⟩
  split at h
  ·rename_i hk
   obtain ⟨⟨n, F⟩, A, h⟩ := aah h; simp only [jy, jm] at h; obtain ⟨rfl, -, rfl⟩ := h; obtain ⟨D, H⟩ := ahy A; refine ⟨?_, .mk (by omega) (by omega) (by omega) (by omega) (by simp)⟩; have : k = 8 ∨ k = 2 := by omega
   rcases this with rfl | rfl <;> (rw [E, D]; unfold V.bytes; simp)
  split at h
  ·rename_i hk
   obtain ⟨⟨n, F⟩, A, h⟩ := aah h; simp only [jy, jm] at h; obtain ⟨rfl, -, rfl⟩ := h; obtain ⟨D, H⟩ := ahy A; refine ⟨?_, .mk (by omega) (by omega) (by omega) (by omega) (by simp)⟩; have : k = 49 ∨ k = 50 := by omega
   rcases this with rfl | rfl <;> (rw [E, D]; unfold V.bytes; simp)
  split at h
  ·rename_i hk
   obtain ⟨⟨s, F⟩, A, h⟩ := aah h; simp only [jy, jm] at h; obtain ⟨rfl, -, rfl⟩ := h; obtain ⟨D, H⟩ := apw A; refine ⟨?_, .mk (by omega) (by omega) (by omega) (by omega) (by simp)⟩; obtain rfl : k = 149 := by omega
   rw [E, D]; unfold V.bytes; simp
  split at h
  ·rename_i hk
   obtain ⟨⟨s, F⟩, A, h⟩ := aah h; simp only [jy, jm] at h; obtain ⟨rfl, -, rfl⟩ := h; obtain ⟨D, H⟩ := apw A; refine ⟨?_, .mk (by omega) (by omega) (by omega) (by omega) (by simp)⟩; obtain rfl : k = 160 := by omega
   rw [E, D]; unfold V.bytes; simp
  split at h
  ·rename_i hk
   obtain ⟨⟨size, F⟩, A, h⟩ := aah h; obtain ⟨⟨n, b3⟩, U, h⟩ := aah h; dsimp only at h; split at h
   ·rename_i hc
    obtain ⟨⟨ks, l, Z, b4⟩, X, h⟩ := aah h; dsimp only at h; split at h
    ·rename_i hs
     simp only [jy, jm] at h; obtain ⟨rfl, -, rfl⟩ := h; obtain ⟨D, H⟩ := ahy A; obtain ⟨G, n3⟩ := ahy U; obtain ⟨J, O, -, Y⟩ := ak4 (rdP d) _ (fun left b x M W h => aog d left b x M W h) _ _ _ _ _ _ _ X; refine ⟨?_, .mk (by omega) (by omega) (by omega) (by omega) Y⟩; subst O
     have K : size = 4 + (V.bytesL (k == 168) ks l).length := by
      dsimp only at G; rw [G, J] at hs; simp [aao] at hs; omega
     dsimp only at G; have : k = 168 ∨ k = 169 := by omega
     rw [E, D, G, J, K]; rcases this with rfl | rfl <;> (unfold V.bytes; simp)
    ·simp at h
   ·simp at h
  ·simp at h
theorem al3 {v : V} (h : v.chk = 0) : v.deep 6 = false ∧ 0 ≤ v.cnt 200 ∧ v.may = true := by
 unfold V.chk at h
 split at h
 ·omega
 ·rename_i h1
  split at h
  ·omega
  ·rename_i h2
   split at h
   ·rename_i h3; exact ⟨by simpa using h1, by omega, h3⟩
   ·omega
theorem apz {v : V} (D : v.Wf) (h : v.chk = 0) (r : List UInt8) : ako (v.bytes ++ r) = some (v, v.bytes.length) := by
 obtain ⟨E, A, F⟩ := al3 h
 unfold ako
 rw [ash 6 v 200 r D E F (by omega) A, Option.bind_some]
 dsimp only
 rw [qw h]; simp
theorem avw {b : List UInt8} {v : V} {n : Nat} (h : ako b = some (v, n)) : v.chk = 0 ∧ v.Wf ∧ n = v.bytes.length ∧ ∃ r, b = v.bytes ++ r := by
 unfold ako at h
 obtain ⟨⟨E, left, r⟩, A, h⟩ := aah h
 dsimp only at h
 split at h
 ·rename_i hc
  simp only [jy, jm] at h; obtain ⟨rfl, rfl⟩ := h; obtain ⟨e, D⟩ := aog _ _ _ _ _ _ A; exact ⟨hc, D, by rw [e]; simp, r, e⟩
 ·simp at h
def ax6 (o : Option (V × Nat)) : V := match o with | some (x, _) => x | none => .mk 0 0 ⟨#[]⟩ [] []
def bdv (o : Option (V × Nat)) : Nat := match o with | some (_, n) => n | none => 0
def bdw (o : Option (V × Nat)) : Int := match o with | some _ => 0 | none => 5
structure Pr where
 key : ByteArray
 dur : Bool
 red : Bool
 id : ByteArray
 app : V
def V.zero : V := .mk 0 0 ⟨#[]⟩ [] []
def V.isZ (v : V) : Bool := v.kind == 0 && v.num == 0 && v.str.size == 0 && v.keys.isEmpty && v.list.isEmpty
theorem ayq (v : V) : v.isZ = true ↔ v = V.zero := by
 obtain ⟨k, n, s, ks, l⟩ := v
 unfold V.isZ V.zero
 simp only [V.kind, V.num, V.str, V.keys, V.list, jj, beq_iff_eq, List.isEmpty_iff, V.mk.injEq]
 constructor
 ·rintro ⟨⟨⟨⟨D, F⟩, G⟩, E⟩, A⟩; exact ⟨D, F, af5 G, E, A⟩
 ·rintro ⟨D, F, G, E, A⟩; exact ⟨⟨⟨⟨D, F⟩, by rw [G]; rfl⟩, E⟩, A⟩
instance isZ_dec (v : V) : Decidable (v = V.zero) := decidable_of_iff (v.isZ = true) (ayq v)
def Pr.chk (p : Pr) : Int := if p.key.size ≤ 255 ∧ p.id.size ≤ 255 ∧ (p.app = V.zero ∨ p.app.kind = 168 ∧ p.app.chk = 0) then 0 else 90
theorem bat (p : Pr) : p.chk = 0 ∨ p.chk = 90 := by unfold Pr.chk; split; exact .inl rfl; exact .inr rfl
theorem akr {p : Pr} : p.chk = 0 ↔ p.key.size ≤ 255 ∧ p.id.size ≤ 255 ∧ (p.app = V.zero ∨ p.app.kind = 168 ∧ p.app.chk = 0) := by
 unfold Pr.chk
 constructor
 ·intro h
  by_cases A : p.key.size ≤ 255 ∧ p.id.size ≤ 255 ∧ (p.app = V.zero ∨ p.app.kind = 168 ∧ p.app.chk = 0)
  ·exact A
  ·rw [qk A] at h; omega
 ·intro h; exact qw h
def stx (s : ByteArray) : List UInt8 := if s.size = 0 then [] else UInt8.ofNat s.size :: s.data.toList
def part (b : List UInt8) : List UInt8 := be 4 b.length ++ b
def fl1 (p : Pr) : Nat := (if p.dur then 1 else 0) + (if p.red then 2 else 0) + (if p.key.size = 0 then 0 else 4)
def fl2 (p : Pr) : Nat := (if p.id.size = 0 then 0 else 1) + (if p.app.kind = 168 then 2 else 0)
def aoh (p : Pr) : List UInt8 := [4, 1, 0, UInt8.ofNat (fl1 p)] ++ stx p.key
def ahf (p : Pr) : List UInt8 := [4, 3, 0, UInt8.ofNat (fl2 p)] ++ stx p.id ++ (if p.app.kind = 168 then p.app.bytes else [])
def Pr.bytes (p : Pr) : List UInt8 := part (aoh p) ++ (if fl2 p = 0 then [] else part (ahf p))
def Pr.text (p : Pr) : ByteArray := ⟨p.bytes.toArray⟩
abbrev RS := List UInt8 × Bool
def tkR (n : Nat) (r : RS) : List UInt8 × RS := if r.2 = false ∧ n ≤ r.1.length then (r.1.take n, (r.1.drop n, false)) else ([], ([], true))
def nmR (w : Nat) (r : RS) : Nat × RS := if r.2 = false then (match gN w r.1 with | some (n, b) => (n, (b, false)) | none => (0, ([], true))) else (0, ([], true))
def txR (w most : Nat) (r : RS) : ByteArray × RS := if r.2 = false then (match gT w most r.1 with | some (s, b) => (s, (b, false)) | none => (⟨#[]⟩, ([], true))) else (⟨#[]⟩, ([], true))
theorem aoi (l b : List UInt8) : tkR l.length (l ++ b, false) = (l, (b, false)) := by
 unfold tkR
 rw [qw ⟨rfl, by simp⟩]
 simp
theorem asi (n : Nat) (l b : List UInt8) (h : l.length = n) : tkR n (l ++ b, false) = (l, (b, false)) := by subst h; exact aoi l b
theorem amv (w n : Nat) (h : n < 256 ^ w) (b : List UInt8) : nmR w (be w n ++ b, false) = (n, (b, false)) := by
 unfold nmR
 rw [qw rfl]
 show (match gN w (be w n ++ b) with | some (n, b) => (n, ((b, false) : RS)) | none => (0, ([], true))) = _
 rw [akq w n h b]
theorem ap0 {n : Nat} (h : n < 256) : be 1 n = [UInt8.ofNat n] := by unfold be; rw [Nat.mod_eq_of_lt h]; rfl
theorem amw {n : Nat} (h : n < 256) : be 2 n = [0, UInt8.ofNat n] := by
 show be 1 (n / 256) ++ [UInt8.ofNat (n % 256)] = _
 rw [Nat.div_eq_of_lt h, Nat.mod_eq_of_lt h]; rfl
theorem ayr (s : ByteArray) (h : s.size ≤ 255) (b : List UInt8) : txR 1 255 (UInt8.ofNat s.size :: (s.data.toList ++ b), false) = (s, (b, false)) := by
 unfold txR
 rw [qw rfl]
 have e := apv 1 255 s (by omega) h b
 rw [ap0 (by omega)] at e
 show (match gT 1 255 ([UInt8.ofNat s.size] ++ (s.data.toList ++ b)) with | some (s, b) => (s, ((b, false) : RS)) | none => (⟨#[]⟩, ([], true))) = _
 rw [e]
def aoj (there : Bool) (r : RS) : ByteArray × RS := if there then txR 1 255 r else (⟨#[]⟩, r)
theorem agx (s : ByteArray) (h : s.size ≤ 255) (b : List UInt8) (is : Bool) (hi : is = !(s.size == 0)) : aoj is (stx s ++ b, false) = (s, (b, false)) := by
 subst hi
 unfold aoj stx
 by_cases A : s.size = 0
 ·rw [qw A, A]
  show ((⟨#[]⟩ : ByteArray), ((b, false) : RS)) = _
  rw [af5 A]; rfl
 ·rw [qk A]
  have : (!(s.size == 0)) = true := by simp [A]
  rw [this]; exact ayr s h b
def pgA (r : RS) : (Bool × Bool × ByteArray) × RS :=
 let f := nmR 2 (tkR 6 r).2
 let k := aoj (f.1 / 4 % 2 == 1) f.2
 ((f.1 % 2 == 1, f.1 / 2 % 2 == 1, k.1), k.2)
def pgB (r : RS) : (ByteArray × V) × RS :=
 let f := nmR 2 (tkR 6 r).2
 let k := aoj (f.1 % 2 == 1) f.2
 if f.1 / 2 % 2 = 1 then let t := tkR k.2.1.length k.2; ((k.1, ax6 (ako t.1)), t.2) else ((k.1, V.zero), k.2)
def pgP (b : List UInt8) : Pr × RS :=
 let x := pgA (b, false)
 if 0 < x.2.1.length then let y := pgB x.2; (⟨x.1.2.2, x.1.1, x.1.2.1, y.1.1, y.1.2⟩, y.2) else (⟨x.1.2.2, x.1.1, x.1.2.1, ⟨#[]⟩, V.zero⟩, x.2)
def dgA (r : RS) : (Bool × Bool × ByteArray) × RS :=
 let f := nmR 1 (tkR 7 r).2
 let k := aoj (f.1 / 4 % 2 == 1) f.2
 ((f.1 % 2 == 1, f.1 / 2 % 2 == 1, k.1), k.2)
def dgB (r : RS) : ByteArray × V :=
 let f := nmR 1 (tkR 7 r).2
 let k := aoj (f.1 % 2 == 1) f.2
 (k.1, if f.1 / 2 % 2 = 1 then ax6 (ako k.2.1) else V.zero)
def pgD (b : List UInt8) : Pr :=
 let x := dgA (b, false)
 if 0 < x.2.1.length then let y := dgB x.2; ⟨x.1.2.2, x.1.1, x.1.2.1, y.1, y.2⟩ else ⟨x.1.2.2, x.1.1, x.1.2.1, ⟨#[]⟩, V.zero⟩
theorem ax7 (p : Pr) : fl1 p < 8 := by unfold fl1; cases p.dur <;> cases p.red <;> by_cases h : p.key.size = 0 <;> simp [h]
theorem asj (p : Pr) : fl2 p < 4 := by unfold fl2; by_cases h : p.id.size = 0 <;> by_cases A : p.app.kind = 168 <;> simp [h, A]
theorem bav (p : Pr) : (fl1 p % 2 == 1) = p.dur := by unfold fl1; cases p.dur <;> cases p.red <;> by_cases h : p.key.size = 0 <;> simp [h]
theorem baw (p : Pr) : (fl1 p / 2 % 2 == 1) = p.red := by unfold fl1; cases p.dur <;> cases p.red <;> by_cases h : p.key.size = 0 <;> simp [h]
theorem bay (p : Pr) : (fl1 p / 4 % 2 == 1) = !(p.key.size == 0) := by unfold fl1; cases p.dur <;> cases p.red <;> by_cases h : p.key.size = 0 <;> simp [h]
theorem ays (p : Pr) : (fl2 p % 2 == 1) = !(p.id.size == 0) := by unfold fl2; by_cases h : p.id.size = 0 <;> by_cases A : p.app.kind = 168 <;> simp [h, A]
theorem ask (p : Pr) : (fl2 p / 2 % 2 = 1) ↔ p.app.kind = 168 := by unfold fl2; by_cases h : p.id.size = 0 <;> by_cases A : p.app.kind = 168 <;> simp [h, A]
theorem bcn (p : Pr) : fl2 p = 0 ↔ p.id.size = 0 ∧ p.app.kind ≠ 168 := by unfold fl2; by_cases h : p.id.size = 0 <;> by_cases A : p.app.kind = 168 <;> simp [h, A]
theorem ayt (n : Nat) : ∃ a b c d, be 4 n = [a, b, c, d] := by
 have h := aao 4 n
 match be 4 n, h with
 | [a, b, c, d], _ => exact ⟨a, b, c, d, rfl⟩
theorem ae2 (b : List UInt8) (x y z c : UInt8) (r : List UInt8) : ∃ A a2 a3 a4, part ([x, y, z, c] ++ b) ++ r = [A, a2, a3, a4, x, y] ++ ([z, c] ++ (b ++ r)) ∧ part ([x, y, z, c] ++ b) ++ r = [A, a2, a3, a4, x, y, z] ++ ([c] ++ (b ++ r)) := by
 obtain ⟨A, a2, a3, a4, h⟩ := ayt ([x, y, z, c] ++ b).length
 refine ⟨A, a2, a3, a4, ?_, ?_⟩ <;> · unfold part; rw [h]; simp
theorem asl (p : Pr) (h : p.key.size ≤ 255) (r : List UInt8) : pgA (part (aoh p) ++ r, false) = ((p.dur, p.red, p.key), (r, false)) := by
 obtain ⟨A, a2, a3, a4, e, -⟩ := ae2 (stx p.key) 4 1 0 (UInt8.ofNat (fl1 p)) r
 have D := ax7 p
 unfold pgA aoh
 rw [e, asi 6 [A, a2, a3, a4, 4, 1] _ rfl, ← amw (show fl1 p < 256 by omega), amv 2 _ (by omega)]
 dsimp only
 rw [agx p.key h r _ (bay p), bav, baw]
theorem ayu (p : Pr) (h : p.key.size ≤ 255) (r : List UInt8) : dgA (part (aoh p) ++ r, false) = ((p.dur, p.red, p.key), (r, false)) := by
 obtain ⟨A, a2, a3, a4, -, e⟩ := ae2 (stx p.key) 4 1 0 (UInt8.ofNat (fl1 p)) r
 have D := ax7 p
 unfold dgA aoh
 rw [e, asi 7 [A, a2, a3, a4, 4, 1, 0] _ rfl, ← ap0 (show fl1 p < 256 by omega), amv 1 _ (by omega)]
 dsimp only
 rw [agx p.key h r _ (bay p), bav, baw]
theorem asm {p : Pr} (h : p.chk = 0) (A : ¬ p.app.kind = 168) : p.app = V.zero := by
 rcases (akr.1 h).2.2 with h | h
 ·exact h
 ·exact jp h.1 A
theorem asn {p : Pr} (h : p.chk = 0) (A : p.app.kind = 168) : p.app.chk = 0 := by
 rcases (akr.1 h).2.2 with h | h
 ·rw [h] at A; exact jp A (by decide)
 ·exact h.2
theorem amx {v : V} (A : v.Wf) (h : v.chk = 0) : ax6 (ako v.bytes) = v := by
 have e := apz A h []
 rw [List.append_nil] at e
 rw [e]; rfl
theorem ayv (p : Pr) (F : p.app.Wf) (h : p.chk = 0) : pgB (part (ahf p), false) = ((p.id, p.app), ([], false)) := by
 obtain ⟨E, a2, a3, a4, e, -⟩ := ae2 (stx p.id ++ (if p.app.kind = 168 then p.app.bytes else [])) 4 3 0 (UInt8.ofNat (fl2 p)) []
 have G := asj p
 unfold pgB ahf
 rw [List.append_assoc, ← List.append_nil (part _), e, List.append_nil, asi 6 [E, a2, a3, a4, 4, 3] _ rfl, ← amw (show fl2 p < 256 by omega), amv 2 _ (by omega)]
 dsimp only
 rw [agx p.id (akr.1 h).2.1 _ _ (ays p)]
 dsimp only
 by_cases A : p.app.kind = 168
 ·rw [qw ((ask p).2 A), qw A]
  have D := aoi p.app.bytes []; rw [List.append_nil] at D; rw [D]; dsimp only; rw [amx F (asn h A)]
 ·rw [qk (fun e => A ((ask p).1 e)), qk A, asm h A]
theorem ayw (p : Pr) (E : p.app.Wf) (h : p.chk = 0) : dgB (part (ahf p), false) = (p.id, p.app) := by
 obtain ⟨D, a2, a3, a4, -, e⟩ := ae2 (stx p.id ++ (if p.app.kind = 168 then p.app.bytes else [])) 4 3 0 (UInt8.ofNat (fl2 p)) []
 have F := asj p
 unfold dgB ahf
 rw [List.append_assoc, ← List.append_nil (part _), e, List.append_nil, asi 7 [D, a2, a3, a4, 4, 3, 0] _ rfl, ← ap0 (show fl2 p < 256 by omega), amv 1 _ (by omega)]
 dsimp only
 rw [agx p.id (akr.1 h).2.1 _ _ (ays p)]
 dsimp only
 by_cases A : p.app.kind = 168
 ·rw [qw ((ask p).2 A), qw A, amx E (asn h A)]
 ·rw [qk (fun e => A ((ask p).1 e)), asm h A]
theorem ap1 (b : List UInt8) : 0 < (part b).length := by unfold part; rw [jz, aao]; omega
theorem aiw {P : Prop} (h : P := by
 rw [qw hz]
 rw [qk (by simp)]
 obtain ⟨h1, h2⟩ := (bcn p).1 hz
 have h3 := asm h h2
 have h4 := af5 h1
 obtain ⟨a, b, c, d, e⟩ := p
 simp only at h3 h4
 rw [h3, h4]; rfl) : P := h
theorem ayx (p : Pr) (A : p.app.Wf) (h : p.chk = 0) : pgP p.bytes = (p, ([], false)) := by
 unfold pgP Pr.bytes
 rw [asl p (akr.1 h).1]
 dsimp only
 by_cases hz : fl2 p = 0
 ·exact aiw
 ·rw [qk hz, qw (ap1 _), ayv p A h]
theorem aok (p : Pr) (A : p.app.Wf) (h : p.chk = 0) : pgD p.bytes = p := by
 unfold pgD Pr.bytes
 rw [ayu p (akr.1 h).1]
 dsimp only
 by_cases hz : fl2 p = 0
 ·exact aiw
 ·rw [qk hz, qw (ap1 _), ayw p A h]
theorem baz {p q : Pr} (H : p.app.Wf) (G : q.app.Wf) (F : p.chk = 0) (A : q.chk = 0) (h : p.bytes = q.bytes) : p = q := by
 have E := aok p H F
 have D := aok q G A
 rw [← E, ← D, h]
def aol (b : List UInt8) (o : Option Pr) : Prop := match o with | some p => p.app.Wf ∧ p.chk = 0 ∧ p.bytes = b | none => ∀ p : Pr, p.app.Wf → p.chk = 0 → p.bytes ≠ b
theorem amy {b : List UInt8} {o D : Option Pr} (h : aol b o) (A : aol b D) : o = D := by
 cases o with
 | none => cases D with
  | none => rfl
  | some q => exact jp A.2.2 (h q A.1 A.2.1)
 | some p => cases D with
  | none => exact jp h.2.2 (A p h.1 h.2.1)
  | some q => rw [baz h.1 A.1 h.2.1 A.2.1 (h.2.2.trans A.2.2.symm)]
theorem amz {p : Pr} (D : p.app.Wf) (h : p.chk = 0) {o : Option Pr} (A : aol p.bytes o) : o = some p := amy A (show aol p.bytes (some p) from ⟨D, h, rfl⟩)
theorem ayy {b : List UInt8} (E : (pgD b).app.Wf) : aol b (if (pgD b).chk = 0 ∧ (pgD b).bytes = b then some (pgD b) else none) := by
 split
 ·rename_i h; exact ⟨E, h.1, h.2⟩
 ·rename_i h
  intro p F D e; have A := aok p F D; rw [e] at A; rw [A] at h; exact h ⟨D, e⟩
theorem ayz {b : List UInt8} (E : (pgP b).1.app.Wf) : aol b (if (pgP b).2.2 = false ∧ (pgP b).1.chk = 0 ∧ (pgP b).1.bytes = b then some (pgP b).1 else none) := by
 split
 ·rename_i h; exact ⟨E, h.2.1, h.2.2⟩
 ·rename_i h
  intro p F D e; have A := ayx p F D; rw [e] at A; rw [A] at h; exact h ⟨rfl, D, e⟩
theorem aso (b : List UInt8) : (ax6 (ako b)).Wf := by
 rcases h : ako b with _ | ⟨x, n⟩
 ·exact .mk (by omega) (by omega) (by omega) (by omega) (fun t A => jp A (by simp))
 ·exact (avw h).2.1
theorem al4 : V.zero.Wf := .mk (by omega) (by omega) (by omega) (by omega) (fun t A => jp A (by simp))
theorem ba0 (b : List UInt8) : (pgD b).app.Wf := by
 unfold pgD
 dsimp only
 split
 ·unfold dgB; dsimp only; split
  ·exact aso _
  ·exact al4
 ·exact al4
theorem ba7 (b : List UInt8) : (pgP b).1.app.Wf := by
 unfold pgP
 dsimp only
 split
 ·unfold pgB; dsimp only; split
  ·exact aso _
  ·exact al4
 ·exact al4
theorem aom (s : ByteArray) : (stx s).length ≤ s.size + 1 := by unfold stx; split; simp; simp [acj]
open Go.RowKit Tryz
def Own {α : Type} (base : Nat) (e : TypeId) (m : Nat) (enc : α → List Value) (w : World) (v : Value) (L : List α) : Prop :=
 w.ownsRow base e m v L.length (L.flatMap enc)
section
variable {α : Type} {base : Nat} {e : TypeId} {m : Nat} {enc : α → List Value} {w w' : World} {v : Value} {L : List α}
theorem Own.nil : Own base e m enc w (.slice none 0 0) [] := World.ownsRow_nil _ _ _ _
theorem Own.slc (A : ∀ x, (enc x).length = m) (h : Own base e m enc w v L) : Slc enc m w v L := Slc.own A h rfl
theorem Own.keep (h : Own base e m enc w v L) (F : ∀ k, v.ownBlock = some k → k < w.heap.size → w'.heap[k]? = w.heap[k]?) : Own base e m enc w' v L := by
 refine ⟨h.1, ?_⟩
 rcases h.2 with H | ⟨g, D, E, rfl, G, A, rest⟩
 ·exact .inl H
 ·exact .inr ⟨g, D, E, rfl, G, (F g rfl (Array.getElem?_eq_some_iff.1 A).1).trans A, rest⟩
theorem Own.upd {S : Nat → Prop} (h : Own base e m enc w v L) (D : Upd S w w') (hs : ∀ k, v.ownBlock = some k → ¬ S k) : Own base e m enc w' v L :=
 h.keep fun k A E => D.block k E (hs k A)
theorem Own.pure (h : Own base e m enc w v L) (A : Below w.heap.size w w') : Own base e m enc w' v L :=
 h.keep fun k _ D => A.block k D
theorem Own.alloc (h : Own base e m enc w v L) (o : Obj) : Own base e m enc (w.alloc o) v L := h.pure ((qz _ _).alloc (qj _) _)
theorem Own.drew (h : Own base e m enc w v L) : Own base e m enc w.drew v L := h
theorem Own.other (h : Own base e m enc w v L) (p : Addr) (u : Value) (A : ∀ k, v.ownBlock = some k → k ≠ p.block) : Own base e m enc (w.setCell p u) v L :=
 h.keep fun k D _ => Below.heap_setCell _ _ _ _ (A k D)
theorem Own.lt (h : Own base e m enc w v L) {k : Nat} (A : v.ownBlock = some k) : k < w.heap.size := (World.ownsRow.lt h k A).2
theorem Own.ge (h : Own base e m enc w v L) {k : Nat} (A : v.ownBlock = some k) : base ≤ k := (World.ownsRow.lt h k A).1
theorem Own.rebase {b' : Nat} (h : Own base e m enc w v L) (F : ∀ k, v.ownBlock = some k → b' ≤ k) : Own b' e m enc w v L := by
 refine ⟨h.1, ?_⟩
 rcases h.2 with G | ⟨g, A, D, rfl, _, E, rest⟩
 ·exact .inl G
 ·exact .inr ⟨g, A, D, rfl, F g rfl, E, rest⟩
theorem Own.shape (h : Own base e m enc w v L) (D : L ≠ []) : ∃ g A, v = .slice (some ⟨g, 0, none⟩) L.length A ∧ base ≤ g ∧ g < w.heap.size := by
 rcases h.2 with ⟨_, F⟩ | ⟨g, A, H, rfl, G, E, _⟩
 ·exact jp (List.eq_nil_of_length_eq_zero F) D
 ·exact ⟨g, A, rfl, G, (Array.getElem?_eq_some_iff.1 E).1⟩
theorem Own.cases (h : Own base e m enc w v L) : (v = .slice none 0 0 ∧ L = []) ∨ ∃ g A, v = .slice (some ⟨g, 0, none⟩) L.length A ∧ base ≤ g ∧ g < w.heap.size ∧ L.length ≤ A ∧ A ≤ maxLen := by
 rcases h.2 with ⟨D, G⟩ | ⟨g, A, J, rfl, I, F, E, H, _⟩
 ·exact .inl ⟨D, List.eq_nil_of_length_eq_zero G⟩
 ·exact .inr ⟨g, A, rfl, I, (Array.getElem?_eq_some_iff.1 F).1, E, H⟩
theorem Own.cell (E : ∀ x, (enc x).length = m) {g n A : Nat} (h : Own base e m enc w (.slice (some ⟨g, 0, none⟩) n A) L) (i : Nat) (hi : i < L.length) (j : Nat) (u : Value) (F : (enc L[i])[j]? = some u) :
 w.cell? ⟨g, i * m + j, none⟩ = some u := by
 have D := World.ownsRow.cells h (g := g) rfl (i * m + j) u (aic E L i hi j u F)
 have e : (⟨g, 0, none⟩ : Addr).add (i * m + j) = ⟨g, i * m + j, none⟩ := by unfold Addr.add; split <;> simp_all
 rw [← e]; exact D
theorem Own.frozen {g n D : Nat} (h : Own base e m enc w (.slice (some ⟨g, 0, none⟩) n D) L) (j : Nat) : w.frozen? ⟨g, j, none⟩ = false := by
 rcases h.2 with ⟨A, _⟩ | ⟨H, F, G, A, I, E, _⟩
 ·simp at A
 ·simp only [Value.slice.injEq, jy, Addr.mk.injEq, and_true] at A
  obtain ⟨rfl, _⟩ := A; simp [World.frozen?, E]
theorem ap2 (D : ∀ x, (enc x).length = m) : ∀ (L : List α) (i : Nat) (h : i < L.length) (j : Nat) (u : Value) (A : α), j < m → enc A = (enc L[i]).set j u →
 (L.set i A).flatMap enc = (L.flatMap enc).set (i * m + j) u
 | [], i, h, _, _, _, _, _ => jp h (by simp)
 | x :: L, 0, _, j, u, A, hj, hx => by
  simp only [List.set_cons_zero, List.flatMap_cons, Nat.zero_mul, Nat.zero_add]; rw [List.set_append_left _ _ (by rw [D]; exact hj)]; simp only [List.getElem_cons_zero] at hx; rw [hx]
 | x :: L, i + 1, h, j, u, A, hj, hx => by
  simp only [List.set_cons_succ, List.flatMap_cons]; rw [ap2 D L i (by simpa using h) j u A hj (by simpa using hx), List.set_append_right _ _ (by rw [D, Nat.add_mul]; omega)]; congr 2; rw [D, Nat.add_mul]; omega
theorem Own.set (I : ∀ x, (enc x).length = m) {g n E : Nat} (h : Own base e m enc w (.slice (some ⟨g, 0, none⟩) n E) L) (i : Nat) (hi : i < L.length) (j : Nat) (u : Value) (D : α)
 (F : j < m) (G : enc D = (enc L[i]).set j u) : Own base e m enc (w.setCell ⟨g, i * m + j, none⟩ u) (.slice (some ⟨g, 0, none⟩) n E) (L.set i D) := by
 have H : n = L.length := by
  rcases h.2 with ⟨A, _⟩ | ⟨_, _, _, A, _⟩
  ·simp at A
  ·simp only [Value.slice.injEq] at A; exact A.2.1
 subst H
 have := (World.ownsRow.stored h (i * m + j) u).1
 unfold Own
 rw [List.length_set, ap2 I L i hi j u D F G]
 exact this
end
structure ElemT (P : Program) (t e : TypeId) (m bytes : Nat) : Prop where
 ht : P.underlying t = some (.slice e)
 ex : ∃ (i : TypeInfo) (z : Value), P.info? e = some i ∧ i.zero = some z ∧ i.size = m ∧ i.bytes = bytes ∧ z.cells.size = m
 pos : 0 < m
theorem ElemT.mk' {P : Program} {t e : TypeId} {z : Value} {m bytes : Nat} (G : P.underlying t = some (.slice e)) (h : (P.info? e).map (fun i => (i.zero, i.size, i.bytes)) = some (some z, m, bytes))
 (E : z.cells.size = m) (I : 0 < m) : ElemT P t e m bytes := by
 obtain ⟨i, A, F, H, D⟩ := info_parts h
 exact ⟨G, ⟨i, z, A, F, H, D, E⟩, I⟩
theorem ae0 {P : Program} (w : World) (base : Nat) (t F e : TypeId) (i : TypeInfo) (size c : Nat) (A : P.underlying t = some (.slice e)) (hi : P.info? e = some i)
 (v : Value) (n : Nat) (G : List Value) (D : w.ownsRow base e size v n G) :
 (Builtin.append_ #[t, t] F #[v, .slice none 0 c]).run P w = .ok v w := by
 rcases D.2 with ⟨rfl, rfl⟩ | ⟨g, H, I, rfl, _, _, E, _⟩
 ·simp [Builtin.append_, run_underlying A, sizeOf, typeInfo, hi, Builtin.lenOf, Builtin.firstCells]
 ·simp [Builtin.append_, run_underlying A, sizeOf, typeInfo, hi, Builtin.lenOf, Builtin.firstCells, E, storeCells]
theorem am0 {P : Prop} (h : P := by
 cases ya with
 | none =>
  by_cases hc0 : cap = 0
  ·subst hc0; exact nilcase rfl rfl
  ·refine wpList_plain hgd fun K hK => ?_
   have hr := ae0 (P := P) w base t o.type e i m cap hE.ht hi v L.length (L.flatMap enc) hown; unfold Oper.wp execOp; simp only [ho, resolve, invoke, builtin, Sem.run_bind, Sem.run_pure, Result.andThen_ok, List.map_toArray, List.map_cons, List.map_nil, hs, hx, hr]; exact hK _ _ (key v w (by simpa [Own] using hown) (World.grownBy.refl _ _) (.inl rfl))
 | some ya =>
  refine wpList_append_own_at w hgd s x t ho base e i z m bytes hE.ht hi hz hsize hby hzs hE.pos v L.length (L.flatMap enc) hs hown ya 0 cap [] hx (by simp) (by simp) (by simp) (by simpa using hlen) (by simpa using hbytes) hbase ?_; intro v' w' h1 h2 _ h4
  exact key v' w' (by simpa using h1) h2 h4) : P := h
theorem aix {P : Prop} (h : P := by
 intro j u hu
 have hj : j < L2.length * m := by rw [← hL2]; exact (List.getElem?_eq_some_iff.1 hu).1
 have hi' : j / m < L2.length := Nat.div_lt_of_lt_mul (by rw [Nat.mul_comm]; exact hj)
 have hjm : j / m * m + j % m = j := by rw [Nat.mul_comm]; exact Nat.div_add_mod j m
 have hlt : j % m < (enc L2[j / m]).length := by rw [hm]; exact Nat.mod_lt _ hE.pos
 have h1 := aic hm L2 (j / m) hi' (j % m) (enc L2[j / m])[j % m] (List.getElem?_eq_getElem hlt)
 rw [hjm, hu] at h1
 have h2 := hcell (j / m) hi' (j % m) u (by rw [List.getElem?_eq_getElem hlt]; exact h1.symm)
 have e1 : (⟨g, off, none⟩ : Addr).add j = ⟨g, off + j / m * m + j % m, none⟩ := by
  rw [Nat.add_assoc, hjm]; unfold Addr.add; split <;> simp_all
 rw [e1]; exact h2) : P := h
theorem ak5 {P : Prop} (h : P := by
 rintro rfl rfl
 refine wpList_plain hgd fun K hK => ?_
 have hr := run_append_owned_none (P := P) w base t o.type e i m hE.ht hi v L.length (L.flatMap enc) hown
 unfold Oper.wp execOp
 simp only [ho, resolve, invoke, builtin, Sem.run_bind, Sem.run_pure, Result.andThen_ok, List.map_toArray, List.map_cons, List.map_nil, hs, hx, hr]
 exact hK _ _ (key v w (by simpa [Own] using hown) (World.grownBy.refl _ _) (.inl rfl))) : P := h
theorem aiy {P : Prop} (h : P := by
 intro v' w' h1 h2 h4
 have h1' : Own base e m enc w' v' (L ++ L2) := by unfold Own; rw [jz, List.flatMap_append]; exact h1
 refine h v' w' h1' h2 h4 ?_
 rcases h1'.cases with ⟨hv, _⟩ | ⟨g, cap, hv, _⟩
 ·exact .inl hv
 ·exact .inr ⟨g, cap, by simpa using hv⟩) : P := h
theorem aaj {α : Type} {enc : α → List Value} {m bytes base : Nat} {P : Program} {w : World} {ops : Array Oper} {rest : List Oper} {o : Oper} {a : Act} {Q : Exit → Act → World → Prop}
 (hgd : o.guard = none) (s x : Operand) (t e : TypeId) (ho : o.op = .call { callee := .builtin .append, args := #[s, x], argTypes := #[t, t] })
 (hE : ElemT P t e m bytes) (hm : ∀ x, (enc x).length = m) (A : ∀ x, ∀ u ∈ enc x, u.oneCell' = true)
 (v : Value) (L : List α) (hs : a.eval s = v) (hown : Own base e m enc w v L)
 (y : Value) (L2 : List α) (hx : a.eval x = y) (D : Slc enc m w y L2)
 (hlen : (L.length + L2.length) ≤ maxLen) (hbytes : (L.length + L2.length) * bytes ≤ 140737488355328) (hbase : base ≤ w.heap.size)
 (h : ∀ v' w', Own base e m enc w' v' (L ++ L2) → w.grownBy w' v.ownBlock → (v'.ownBlock = v.ownBlock ∨ v'.ownBlock = some w.heap.size) →
  (v' = .slice none 0 0 ∨ ∃ g cap, v' = .slice (some ⟨g, 0, none⟩) (L.length + L2.length) cap) → wpList P ops Q rest (a.put o.dst v') w') :
 wpList P ops Q (o :: rest) a w := by
 obtain ⟨i, z, hi, hz, hsize, hby, hzs⟩ := hE.ex
 have hL2 : (L2.flatMap enc).length = L2.length * m := abp hm L2
 have key : ∀ v' w', w'.ownsRow base e m v' (L.length + L2.length) (L.flatMap enc ++ L2.flatMap enc) → w.grownBy w' v.ownBlock → (v'.ownBlock = v.ownBlock ∨ v'.ownBlock = some w.heap.size) → wpList P ops Q rest (a.put o.dst v') w' := by
  exact aiy
 have nilcase : y = .slice none 0 0 → L2 = [] → wpList P ops Q (o :: rest) a w := by
  exact ak5
 rcases D with ⟨ya, cap, rfl, E, rfl⟩ | ⟨g, off, cap, rfl, F, G, hcell⟩
 ·exact am0
 ·refine wpList_append_own_at w hgd s x t ho base e i z m bytes hE.ht hi hz hsize hby hzs hE.pos v L.length (L.flatMap enc) hs hown ⟨g, off, none⟩ L2.length cap (L2.flatMap enc) hx hL2 ?_ ?_ hlen hbytes hbase ?_
  ·exact aix
  ·intro u hu
   obtain ⟨y, _, hy⟩ := List.mem_flatMap.1 hu; exact A y u hy
  ·intro v' w' h1 h2 _ h4
   exact key v' w' h1 h2 h4
theorem aiz {P : Prop} (h : P := by
 intro v' w' h1 h2 h3 h4
 have h1' : Own base e m enc w' v' (L ++ [y]) := by unfold Own; rw [jz, List.flatMap_append]; simpa using h1
 obtain ⟨g', cap', hv, _⟩ := h1'.shape (by simp)
 have hv' : v' = .slice (some ⟨g', 0, none⟩) (L.length + 1) cap' := by simpa using hv
 subst hv'
 exact h g' cap' w' h1' h2 (by
  rcases h4 with h4 | h4
  ·exact .inl h4.symm
  ·exact .inr (by simpa [Value.ownBlock] using h4))) : P := h
theorem ai0 {P : Prop} (h : P := by
 intro j u hu
 have e1 : (⟨g, 0, none⟩ : Addr).add j = ⟨g, j, none⟩ := by unfold Addr.add; split <;> simp_all
 rw [e1]; exact hy j u hu) : P := h
theorem af6 {α : Type} {enc : α → List Value} {m bytes base : Nat} {P : Program} {w : World} {ops : Array Oper} {rest : List Oper} {o : Oper} {a : Act} {Q : Exit → Act → World → Prop}
 (M : o.guard = none) (s x : Operand) (t e : TypeId) (O : o.op = .call { callee := .builtin .append, args := #[s, x], argTypes := #[t, t] })
 (A : ElemT P t e m bytes) (X : ∀ x, (enc x).length = m) (I : ∀ x, ∀ u ∈ enc x, u.oneCell' = true)
 (v : Value) (L : List α) (hs : a.eval s = v) (H : Own base e m enc w v L)
 (g D : Nat) (y : α) (U : a.eval x = .slice (some ⟨g, 0, none⟩) 1 D) (hy : ∀ j u, (enc y)[j]? = some u → w.cell? ⟨g, j, none⟩ = some u)
 (E : (L.length + 1) * bytes ≤ 140737488355328) (J : L.length + 1 ≤ maxLen) (F : base ≤ w.heap.size)
 (h : ∀ g' cap' w', Own base e m enc w' (.slice (some ⟨g', 0, none⟩) (L.length + 1) cap') (L ++ [y]) → w.grownBy w' v.ownBlock → (v.ownBlock = some g' ∨ g' = w.heap.size) →
  wpList P ops Q rest (a.put o.dst (.slice (some ⟨g', 0, none⟩) (L.length + 1) cap')) w') :
 wpList P ops Q (o :: rest) a w := by
 obtain ⟨i, z, hi, W, G, N, K⟩ := A.ex
 refine wpList_append_own_at w M s x t O base e i z m bytes A.ht hi W G N K A.pos v L.length (L.flatMap enc) hs H ⟨g, 0, none⟩ 1 D (enc y) U (by rw [X]; omega) ?_ (I y) J E F ?_
 ·exact ai0
 ·exact aiz
structure ElemZ (P : Program) (t e : TypeId) (m bytes : Nat) (zs : List Value) : Prop where
 ht : P.underlying t = some (.slice e)
 ex : ∃ (i : TypeInfo) (z : Value), P.info? e = some i ∧ i.zero = some z ∧ i.size = m ∧ i.bytes = bytes ∧ z.cells = zs.toArray
 pos : 0 < m
 len : zs.length = m
theorem ElemZ.mk' {P : Program} {t e : TypeId} {z : Value} {m bytes : Nat} {A : List Value} (E : P.underlying t = some (.slice e)) (h : (P.info? e).map (fun i => (i.zero, i.size, i.bytes)) = some (some z, m, bytes))
 (J : z.cells = A.toArray) (K : 0 < m) (I : A.length = m) : ElemZ P t e m bytes A := by
 obtain ⟨i, G, D, F, H⟩ := info_parts h
 exact ⟨E, ⟨i, z, G, D, F, H, J⟩, K, I⟩
theorem ElemZ.toT {P : Program} {t e : TypeId} {m bytes : Nat} {G : List Value} (h : ElemZ P t e m bytes G) : ElemT P t e m bytes := by
 obtain ⟨J, ⟨i, z, D, H, I, E, A⟩, K, F⟩ := h
 exact ⟨J, ⟨i, z, D, H, I, E, by rw [A]; simpa using F⟩, K⟩
theorem ady {α : Type} {enc : α → List Value} {m : Nat} (A : ∀ x, (enc x).length = m) (F : 0 < m) (D : α) : ∀ (n j : Nat), j < n * m → ((List.replicate n D).flatMap enc)[j]? = (enc D)[j % m]?
 | 0, j, h => by simp at h
 | n + 1, j, h => by
  simp only [List.replicate_succ, List.flatMap_cons]; by_cases E : j < m
  ·rw [List.getElem?_append_left (by rw [A]; exact E), Nat.mod_eq_of_lt E]
  ·rw [List.getElem?_append_right (by rw [A]; omega), A, ady A F D n (j - m) (by rw [Nat.add_mul] at h; omega)]
   rw [← Nat.mod_eq_sub_mod (by omega)]
theorem asp {α : Type} {enc : α → List Value} {m : Nat} (D : ∀ x, (enc x).length = m) (F : 0 < m) (A : α) (n : Nat) :
 (madeCells (enc A).toArray (n * m)).toList = (List.replicate n A).flatMap enc := by
 apply List.ext_getElem?
 intro j
 by_cases E : j < n * m
 ·rw [ady D F A n j E]
  have G : j % m < (enc A).length := by rw [D]; exact Nat.mod_lt _ F
  have H : j % (enc A).length < (enc A).length := Nat.mod_lt _ (by omega); simp [madeCells, E, D, List.getElem?_eq_getElem G]
 ·rw [List.getElem?_eq_none (by simp [size_madeCells]; omega), List.getElem?_eq_none (by rw [abp D]; simp; omega)]
theorem asq {α : Type} {enc : α → List Value} {m bytes base : Nat} {P : Program} {w : World} {ops : Array Oper} {rest : List Oper} {o : Oper} {a : Act} {Q : Exit → Act → World → Prop}
 (J : o.guard = none) (l c : Operand) (t e : TypeId) (I : o.op = Op.makeSlice t l c) (A : α) (D : ElemZ P t e m bytes (enc A)) (Z : ∀ x, (enc x).length = m)
 (F E : IntKind) (N C : Int) (n : Nat) (X : a.eval l = .int F N) (hc : a.eval c = .int E C) (hL : N = (n : Int)) (h : C = (n : Int)) (U : bytes * n ≤ 281474976710656) (O : n ≤ maxLen) (b4 : base ≤ w.heap.size)
 (aa : ∀ w', Own base e m enc w' (.slice (some ⟨w.heap.size, 0, none⟩) n n) (List.replicate n A) → w.grownBy w' none → wpList P ops Q rest (a.put o.dst (.slice (some ⟨w.heap.size, 0, none⟩) n n)) w') :
 wpList P ops Q (o :: rest) a w := by
 obtain ⟨i, z, hi, Y, G, K, H⟩ := D.ex
 refine wpList_make_full w J l c t I base e i z m D.ht hi Y G F E N C n X hc hL h (by rw [K]; exact U) O b4 ?_
 intro w' W M
 refine aa w' ?_ M
 unfold Own
 rw [List.length_replicate, ← asp Z D.pos A n, ← H]
 exact W
theorem Own.made0 {α : Type} {enc : α → List Value} {m : Nat} (w : World) (e : TypeId) {base : Nat} (A : base ≤ w.heap.size) : Own base e m enc (w.alloc (.cells #[] e)) (.slice (some ⟨w.heap.size, 0, none⟩) 0 0) ([] : List α) :=
 ⟨by simp, .inr ⟨w.heap.size, 0, #[], rfl, A, heap_alloc_new w _, by simp, by simp, by simp, by simp⟩⟩
theorem Slc.part {α : Type} {enc : α → List Value} {m : Nat} {w : World} {a : Option Addr} {n A : Nat} {L : List α} (h : Slc enc m w (.slice a n A) L) {l u : Nat} (W : l ≤ u) (K : u ≤ L.length) :
 Slc enc m w (sliced a l u A m) ((L.take u).drop l) := by
 rcases h with ⟨M, H, E, N, rfl⟩ | ⟨g, off, H, E, U, O, J⟩
 ·simp only [Value.slice.injEq] at E
  obtain ⟨rfl, rfl, rfl⟩ := E; simp only [List.length_nil] at K; obtain rfl : u = 0 := by omega
  obtain rfl : l = 0 := by omega
  refine .inl ⟨_, A - 0, rfl, by omega, by simp⟩
 ·simp only [Value.slice.injEq] at E
  obtain ⟨rfl, rfl, rfl⟩ := E; unfold sliced; have D : ((L.take u).drop l).length = u - l := by rw [List.length_drop, List.length_take]; omega
  by_cases F : A = l
  ·have I : u = l := by omega
   rw [qw F]; refine .inl ⟨_, A - l, by rw [I, Nat.sub_self], by omega, List.eq_nil_of_length_eq_zero (by rw [D]; omega)⟩
  ·rw [qk F]
   refine .inr ⟨g, off + l * m, A - l, ?_, by rw [D]; omega, by omega, fun i hi j x G => ?_⟩
   ·rw [D]
    simp only [Option.map_some]; congr 2; unfold Addr.add; split <;> simp_all
   ·rw [D] at hi
    have e : ((L.take u).drop l)[i]'(by rw [D]; exact hi) = L[l + i]'(by omega) := by rw [List.getElem_drop, List.getElem_take]
    rw [e] at G; have := J (l + i) (by omega) j x G; rw [Nat.add_mul] at this; rw [show off + l * m + i * m + j = off + (l * m + i * m) + j by omega]; exact this
theorem Own.shape3 {α : Type} {enc : α → List Value} {m base : Nat} {e : TypeId} {w : World} {v : Value} {L : List α} (h : Own base e m enc w v L) : ∃ a n c, v = .slice a n c := by
 rcases h.cases with ⟨rfl, _⟩ | ⟨g, A, rfl, _⟩
 ·exact ⟨_, _, _, rfl⟩
 ·exact ⟨_, _, _, rfl⟩
theorem Slc.shape3 {α : Type} {enc : α → List Value} {m : Nat} {w : World} {v : Value} {L : List α} (h : Slc enc m w v L) : ∃ a n c, v = .slice a n c := by
 obtain ⟨a, c, rfl, _⟩ := h.len; exact ⟨_, _, _, rfl⟩
section
variable {α : Type} {enc : α → List Value} {m bytes : Nat} {P : Program} {w : World} {ops : Array Oper} {rest : List Oper} {o : Oper} {a : Act} {Q : Exit → Act → World → Prop} {v : Value} {L : List α} {t e : TypeId} {x y z : Operand}
theorem aie (D : ElemT P t e m bytes) : (sizeOf e).run P w = .ok m w := by
 obtain ⟨i, z, hi, G, A, F, E⟩ := D.ex
 simp [sizeOf, typeInfo, hi, A]
theorem am1 (M : o.guard = none) (N : o.op = .slice t x none (some y) none) (D : ElemT P t e m bytes) (W : a.eval x = v) (G : Slc enc m w v L) {k : IntKind} {u : Nat} {U : Int} (hy : a.eval y = .int k U) (Y : U = (u : Nat)) (X : u ≤ L.length)
 (aa : ∀ J, Slc enc m w J (L.take u) → wpList P ops Q rest (a.put o.dst J) w) : wpList P ops Q (o :: rest) a w := by
 obtain ⟨A, I, rfl, hm⟩ := G.len
 have ac : L.length ≤ I := by
  rcases G with ⟨_, _, H, _, O⟩ | ⟨g, off, ab, H, Z, h2, _⟩
  ·rw [O]; simp
  ·simp only [Value.slice.injEq] at H; obtain ⟨_, _, rfl⟩ := H; exact Z
 have h := aa _ (by have := G.part (Nat.zero_le u) X; rwa [List.drop_zero] at this)
 refine wpList_plain M fun K' K => ?_
 unfold Oper.wp
 subst Y
 have E : P.elem t = e := by unfold Program.elem; rw [D.ht]
 have F := run_slice_h (P := P) (w := w) t A L.length I (by rw [E]; exact D.ht) k (u : Int) (by omega) (by omega)
 rw [E, aie D] at F
 simp only [Result.andThen, Int.toNat_natCast] at F
 simp [execOp, N, W, hy, Result.andThen, run_sliceAt_slice (P := P) (w := w) t _ _ _ _ (by rw [E]; exact D.ht), F]
 exact K _ _ h
end
theorem aaz {α E : Type} {b b' e F m K : Nat} {enc : α → List Value} {H : E → List Value} {w : World} {v G : Value} {L : List α} {J : List E} (h : Own b e m enc w v L) (N : Own b' F K H w G J) (I : e ≠ F) {i : Nat} (hi : v.ownBlock = some i) (D : G.ownBlock = some i) : False := by
 rcases h.2 with ⟨rfl, _⟩ | ⟨g, W, Y, rfl, Z, M, _⟩
 ·simp [Value.ownBlock] at hi
 ·rcases N.2 with ⟨rfl, _⟩ | ⟨g', O, U, rfl, X, A, _⟩
  ·simp [Value.ownBlock] at D
  ·simp only [Value.ownBlock, jy] at hi D
   subst hi; subst D; rw [M] at A; simp only [jy, Obj.cells.injEq] at A; exact I A.2.1
theorem Own.low {α : Type} {base e m : Nat} {enc : α → List Value} {w : World} {v : Value} {L : List α} (h : Own base e m enc w v L) (b i : Nat) (u : Value) (E : b < base) : Own base e m enc (w.setCell ⟨b, i, none⟩ u) v L :=
 h.other _ _ (fun j A e => by have D := h.ge A; dsimp only at e; omega)
theorem abr {α : Type} {m : Nat} {enc : α → List Value} {base : Nat} {e : TypeId} {w : World} {a : Option Addr} {n c : Nat} {R : List α} (h : Own base e m enc w (.slice a n c) R) {k : Nat} (D : k < R.length) : ∃ g, a = some ⟨g, 0, none⟩ ∧ base ≤ g := by
 rcases h.cases with ⟨_, A⟩ | ⟨g, F, E, A, _⟩
 ·rw [A] at D; simp at D
 ·simp only [Value.slice.injEq] at E; exact ⟨g, E.1, A⟩
def Big (n : Nat) : Prop := n ≤ 70368744177664
theorem Big.le {n : Nat} (h : Big n) : n ≤ 70368744177664 := h
theorem Big.mono {n m : Nat} (h : Big n) (k : m ≤ n) : Big m := jk k h
def aax (c : UInt8) : List Value := [.int .u8 c.toNat]
theorem aaa (c : UInt8) : (aax c).length = 1 := rfl
theorem aay (c : UInt8) : ∀ u ∈ aax c, u.oneCell' = true := by simp [aax, Value.oneCell']
theorem ai1 : (prog.info? 5).map (fun i => (i.zero, i.size, i.bytes)) = some (some (.int .u8 0), 1, 1) := by kernel_rfl
theorem elem_byZ : ElemZ prog 189 5 1 1 (aax 0) := ElemZ.mk' underlying189 ai1 rfl (by omega) rfl
theorem abx : ElemT prog 189 5 1 1 := elem_byZ.toT
theorem ay0 (s : ByteArray) : s.data.toList.flatMap aax = Lib.strCells s := by
 unfold Lib.strCells aax
 induction s.data.toList with
 | nil => rfl
 | cons x xs ih => rw [List.flatMap_cons, List.map_cons, ih]; rfl
section
variable {P : Program} {w : World} {ops : Array Oper} {rest : List Oper} {o : Oper} {a : Act} {Q : Exit → Act → World → Prop}
theorem aon {base : Nat} (H : o.guard = none) (D x : Operand) (I : o.op = .call { callee := .builtin .append, args := #[D, x], argTypes := #[189, 9] })
 (v : Value) (L : List UInt8) (hs : a.eval D = v) (F : Own base 5 1 aax w v L) (s : ByteArray) (O : a.eval x = .string s)
 (G : L.length + s.size ≤ 140737488355328) (E : base ≤ w.heap.size)
 (h : ∀ A w', Own base 5 1 aax w' A (L ++ s.data.toList) → w.grownBy w' v.ownBlock → wpList prog ops Q rest (a.put o.dst A) w') : wpList prog ops Q (o :: rest) a w := by
 obtain ⟨i, U, M, N, W⟩ := info_parts ai1
 refine Lib.wpList_append_own_string w H D x 189 9 I base 5 i underlying189 underlying9 U M N W v L.length (L.flatMap aax) hs F s O (by unfold maxLen; omega) G E ?_
 intro A w' K J _
 refine h A w' ?_ J
 unfold Own
 rw [jz, acj, List.flatMap_append, ay0]
 exact K
theorem aq3 {base : Nat} (F : o.guard = none) (l c : Operand) (H : o.op = Op.makeSlice 189 l c) (A D : IntKind) (C : Int) (n : Nat) (U : a.eval l = .int A 0) (G : a.eval c = .int D C) (W : C = (n : Int))
 (X : n ≤ 140737488355328) (E : base ≤ w.heap.size)
 (h : ∀ w', Own base 5 1 aax w' (.slice (some ⟨w.heap.size, 0, none⟩) 0 n) ([] : List UInt8) → w.grownBy w' none → wpList prog ops Q rest (a.put o.dst (.slice (some ⟨w.heap.size, 0, none⟩) 0 n)) w') : wpList prog ops Q (o :: rest) a w := by
 obtain ⟨i, N, K, M, O⟩ := info_parts ai1
 exact wpList_make_own w F l c 189 H base 5 i _ 1 underlying189 N K M A D C n U G W (by rw [O]; omega) (by unfold maxLen; omega) E (fun w' J I => h w' J I)
end
theorem Slc.other {α : Type} {enc : α → List Value} {m : Nat} {w : World} {v : Value} {L : List α} (h : Slc enc m w v L) (p : Addr) (u : Value) (A : ∀ k, v.ownBlock = some k → k ≠ p.block) : Slc enc m (w.setCell p u) v L :=
 h.upd (Upd.set (S := fun k => k = p.block) rfl u) (fun k D e => A k D e)
theorem aap {α : Type} {enc : α → List Value} {m base : Nat} {e : TypeId} {w : World} {v : Value} {L : List α} (h : Own base e m enc w v L) : ∃ a c, v = .slice a L.length c := by
 rcases h.cases with ⟨rfl, rfl⟩ | ⟨g, A, rfl, _⟩
 ·exact ⟨none, 0, rfl⟩
 ·exact ⟨_, _, rfl⟩
theorem Own.byte1 (w : World) (c : UInt8) (x : Int) (A : x = (c.toNat : Int)) {base : Nat} (D : base ≤ w.heap.size) : Own base 5 1 aax (w.alloc (.cells #[.int .u8 x] 5)) (.slice (some ⟨w.heap.size, 0, none⟩) 1 1) [c] :=
 ⟨by simp [aax], .inr ⟨w.heap.size, 1, #[.int .u8 x], rfl, D, heap_alloc_new w _, by simp, by unfold maxLen; omega, by simp, by subst A; simp [aax]⟩⟩
theorem aif (w : World) (v : Value) (L : List UInt8) (h : Slc aax 1 w v L) : (convert 189 9 v).run prog w = .ok (.string ⟨L.toArray⟩) w := by
 rcases h with ⟨a, A, rfl, G, rfl⟩ | ⟨g, off, A, rfl, I, H, E⟩
 ·rw [run_convert_bytes_string w _ _ _ _ _ _ underlying189 underlying5 underlying9]
  cases a with
  | none => simp [Conv.bytesToString]; rfl
  | some a =>
   rw [run_bytesToString (P := prog) w a 0 A [] (by
    have := run_loadCells_list (P := prog) w a [] (fun j v D => by simp at D)
    simpa using this)]
   rfl
 ·refine run_convert_bytes_back w _ _ _ _ A L underlying189 underlying5 underlying9 (fun j D => ?_)
  have F := E j D 0 (.int .u8 L[j].toNat) rfl; have e : (⟨g, off, none⟩ : Addr).add j = ⟨g, off + j, none⟩ := by unfold Addr.add; split <;> simp_all
  rw [e]; simpa using F
def Wd (n : Int) : Prop := n = 1 ∨ n = 2 ∨ n = 4 ∨ n = 8
theorem aig (n : Int) (w : World) (h : Wd n) : Calls prog 191 #[.int .i64 n] w fun e w' => e = .returned (.bool true) ∧ w = w' := by
 rcases h with rfl | rfl | rfl | rfl
 all_goals
  go_enter func191, ntmps191; go_wp2; go_ret; exact ⟨rfl, rfl⟩
theorem ak6 (w : World) (a : Option Addr) (n c : Nat) : (binOp .eql 189 (.slice a n c) (.slice none 0 0)).run prog w = .ok (.bool a.isNone) w := Lib.run_eql_slice_nil w _ _ a n c 0 0 underlying189
theorem ak7 (w : World) (v : Value) (L : List UInt8) (h : Slc aax 1 w v L) (F : Big L.length) :
 Calls prog 195 #[v] w fun e w' => ∃ r, e = .returned r ∧ Own w.heap.size 5 1 aax w' r L ∧ Below w.heap.size w w' := by
 obtain ⟨a, D, rfl, -⟩ := h.len
 cases a with
 | none =>
  have G := fun w => ak6 w none 0 D
  have M : L.length = 0 := by
   rcases h with ⟨_, _, E, _, K⟩ | ⟨_, _, _, E, _⟩
   ·rw [K]; rfl
   ·simp at E
  have H := List.length_eq_zero_iff.1 M; subst H; go_enter func195, ntmps195; go_wp2; go_ret; exact ⟨_, rfl, Own.nil, qz _ _⟩
 | some a =>
  have G := fun w => ak6 w (some a) L.length D
  have A := (qz w.heap.size w).alloc (qj _) (.cells #[] 5); have N := h.pure A; have O := Own.made0 (enc := aax) (m := 1) w 5 (qj w.heap.size); go_enter func195, ntmps195; go_wp2_with (at_builtin; refine aaj (base := w.heap.size) rfl (.tmp 5) (.tmp 6) 189 5 rfl abx aaa aay _ [] rfl O _ L rfl N (by have := F.le; simp; unfold maxLen; omega) (by have := F.le; simp; omega) (by simp) ?_; intro Y X I J U W); go_ret; exact ⟨_, rfl, I, A.grown J (by simp) (fun j e => by cases e; exact qj _)⟩
theorem asr : ∀ (k n : Nat), be (k + 1) n = UInt8.ofNat (n / 256 ^ k % 256) :: be k n
 | 0, n => by unfold be be; simp
 | k + 1, n => by
  have h := asr k (n / 256); rw [show be (k + 1 + 1) n = be (k + 1) (n / 256) ++ [UInt8.ofNat (n % 256)] from rfl, h, show be (k + 1) n = be k (n / 256) ++ [UInt8.ofNat (n % 256)] from rfl]; rw [Nat.div_div_eq_div_mul, show 256 * 256 ^ k = 256 ^ (k + 1) by rw [Nat.pow_succ, Nat.mul_comm]]; rfl
theorem ba8 (A k n : Nat) (h : k < A) (x : UInt8) (D : x = UInt8.ofNat (n / 256 ^ k % 256)) : (List.replicate (A - k) 0 ++ be k n).set (A - 1 - k) x = List.replicate (A - (k + 1)) 0 ++ be (k + 1) n := by
 rw [asr, D, show A - k = A - (k + 1) + 1 by omega, List.replicate_succ', List.append_assoc, List.set_append_right _ _ (by simp; omega)]
 simp [show A - 1 - k - (A - (k + 1)) = 0 by omega]
theorem ak8 (w : World) (n : Int) (A : Nat) (Y : 0 ≤ n) (K : Wd A) :
 Calls prog 193 #[.int .u64 n, .int .i64 A] w fun e w' => ∃ r, e = .returned r ∧ Own w.heap.size 5 1 aax w' r (be A n.toNat) ∧ Below w.heap.size w w' := by
 have M : 1 ≤ A ∧ A ≤ 8 := by unfold Wd at K; omega
 obtain ⟨h, Z⟩ := M
 clear K
 go_enter func193, ntmps193
 go_wp2_with (at_make; refine asq rfl _ _ 189 5 rfl (0 : UInt8) elem_byZ aaa .i64 .i64 _ _ A rfl rfl rfl rfl (by omega) (by unfold maxLen; omega) (qj _) ?_; intro w1 W X)
 have O := (qz w.heap.size w).grown X (qj _) (fun j e => by cases e)
 go_loopw [11] (fun F wr => ∃ k : Nat, k ≤ A ∧ F = .int .i64 k ∧ Own w.heap.size 5 1 aax wr (.slice (some ⟨w.heap.size, 0, none⟩) A A) (List.replicate (A - k) 0 ++ be k n.toNat) ∧ Below w.heap.size w wr) (fun F _ => A - (intOf F).toNat)
 case atStart => exact ⟨0, by omega, rfl, by unfold be; simpa using W, O⟩
 case round =>
  obtain ⟨k, hk, rfl, D, J⟩ := hrel; by_cases U : k < A
  ·have h0 : (0 : Int) ≤ (k : Int) := by omega
   have h1 : (k : Int) < (A : Int) := by omega
   have hf := D.frozen (A - 1 - k); have E : (List.replicate (A - k) (0 : UInt8) ++ be k n.toNat).length = A := by rw [jz, List.length_replicate, aao]; omega
   have G := D.cell aaa (A - 1 - k) (by rw [E]; omega) 0 _ rfl; rw [Nat.mul_one, Nat.add_zero] at G
   have H : n / 2 ^ (8 * k) % 256 = ((UInt8.ofNat (n.toNat / 256 ^ k % 256)).toNat : Int) := by
    obtain ⟨m, rfl⟩ := Int.eq_ofNat_of_zero_le Y; rw [UInt8.toNat_ofNat', Nat.mod_mod, Int.toNat_natCast, show (256 : Nat) = 2 ^ 8 by rfl, ← Nat.pow_mul]
    push_cast; rfl
   have I := D.set aaa (A - 1 - k) (by rw [E]; omega) 0 (.int .u8 (n / 2 ^ (8 * k) % 256)) (UInt8.ofNat (n.toNat / 256 ^ k % 256)) (by omega) (by rw [H]; rfl); rw [ba8 A k n.toNat U _ rfl, Nat.mul_one, Nat.add_zero] at I; obtain ⟨u, hu⟩ : ∃ u, wr.cell? ⟨w.heap.size, A - 1 - k, none⟩ = some u := ⟨_, G⟩
   clear G E H; have N := Below.setCell (p := ⟨w.heap.size, A - 1 - k, none⟩) J (qj _) (.int .u8 (n / 2 ^ (8 * k) % 256)); go_wp2; go_roundw
   case rel => exact ⟨k + 1, by omega, by go_num, I, N⟩
   case measure => simp [intOf]; omega
  ·obtain rfl : k = A := by omega
   go_wp2; go_ret; exact ⟨_, rfl, by simpa using D, J⟩
theorem ak9 (w : World) (u v : Value) (L M : List UInt8) (H : Slc aax 1 w u L) (I : Slc aax 1 w v M) (A : Big (L.length + M.length)) :
 Calls prog 192 #[u, v] w fun e w' => ∃ r, e = .returned r ∧ Own w.heap.size 5 1 aax w' r (L ++ M) ∧ Below w.heap.size w w' := by
 obtain ⟨a, ac, rfl, -⟩ := H.len
 obtain ⟨b, bc, rfl, -⟩ := I.len
 have G : (L.length : Int) + (M.length : Int) = ((L.length + M.length : Nat) : Int) := by push_cast; rfl
 have ae : IntKind.i64.wrap ((L.length : Int) + (M.length : Int)) = ((L.length + M.length : Nat) : Int) := by rw [IntWalk.i64_in _ (by have := A.le; omega)]; exact G
 clear G
 go_enter func192, ntmps192
 go_wp2_with (first | (at_make; refine aq3 (base := w.heap.size) rfl _ _ rfl .i64 .i64 _ (L.length + M.length) rfl rfl (by first | rfl | omega) (by have := A.le; omega) (qj _) ?_; intro w1 X K; have E := (qz w.heap.size w).grown K (qj _) (fun j e => by cases e); have Y := H.pure E) | (at_builtin; refine aaj (base := w.heap.size) rfl (.tmp 10) (.tmp 11) 189 5 rfl abx aaa aay _ [] rfl X _ L rfl Y (by have := A.le; simp; unfold maxLen; omega) (by have := A.le; simp; omega) E.size ?_; intro Z w2 F N ad h; have D := E.grown N E.size (fun j e => by cases e; exact qj _); have U := I.pure D; simp only [List.nil_append] at F) | (at_builtin; refine aaj (base := w.heap.size) rfl (.tmp 12) (.tmp 13) 189 5 rfl abx aaa aay Z L rfl F _ M rfl U (by have := A.le; unfold maxLen; omega) (by have := A.le; omega) D.size ?_; intro v3 w3 W J aa ab; have O := D.grown J D.size (fun j e => F.ge e)))
 go_ret
 exact ⟨_, rfl, W, O⟩
theorem acg (w : World) (v : Value) (L : List UInt8) (n : Int) (A : Nat) (K : Slc aax 1 w v L) (J : 0 ≤ n) (E : Wd A) (M : Big (L.length + 8)) :
 Calls prog 163 #[v, .int .u64 n, .int .i64 A] w fun e w' => ∃ r, e = .returned r ∧ Own w.heap.size 5 1 aax w' r (L ++ be A n.toNat) ∧ Below w.heap.size w w' := by
 have O := qq (aao A n.toNat)
 have U : A ≤ 8 := by unfold Wd at E; omega
 go_enter func163, ntmps163
 go_wp2_with (first | (go_at_call 191; (with_reducible refine (aig _ _ E).mono ?_); rintro e N ⟨rfl, rfl⟩) | (go_at_call 193; (with_reducible refine (ak8 _ n A J E).mono ?_); rintro e N ⟨X, rfl, I, D⟩; have H := K.pure D) | (go_at_call 192; (with_reducible refine (ak9 _ _ _ L (be A n.toNat) H (I.slc aaa) (by rw [O.out]; exact M.mono (by omega))).mono ?_); rintro e Y ⟨W, rfl, F, G⟩))
 go_ret
 exact ⟨_, rfl, F.rebase (fun i hi => jk D.size (F.ge hi)), D.trans (G.mono D.size)⟩
theorem adz (w : World) (v : Value) (L : List UInt8) (s : ByteArray) (A : Nat) (Z : Slc aax 1 w v L) (I : A = 1 ∨ A = 2 ∨ A = 4) (hs : s.size < 256 ^ A) (J : Big (L.length + s.size + 8)) :
 Calls prog 164 #[v, .string s, .int .i64 A] w fun e w' => ∃ r, e = .returned (.tuple #[r, .int .i64 0]) ∧ Own w.heap.size 5 1 aax w' r (L ++ (be A s.size ++ s.data.toList)) ∧ Below w.heap.size w w' := by
 have K := qq (aao A s.size)
 have U := qq (acj s)
 have H : Wd A := by unfold Wd; omega
 have ae := hs
 have Y : (0 : Int) ≤ (s.size : Int) := by omega
 have h4 : s.size < 4294967296 := by rcases I with rfl | rfl | rfl <;> omega
 have ac : IntKind.u64.wrap (s.size : Int) = (s.size : Int) := by unfold IntKind.wrap; simp [IntKind.signed, IntKind.bits]; omega
 have hq : (s.size : Int) / 2 ^ (8 * A) = 0 := by
  have : s.size / 2 ^ (8 * A) = 0 := Nat.div_eq_of_lt (by rw [Nat.pow_mul]; exact hs)
  exact_mod_cast this
 have ad : ((A : Int) == 8) = false := ju.2 (by omega)
 have aa : 1 ≤ A := by omega
 have ab : A ≤ 8 := by omega
 clear I
 go_enter func164, ntmps164
 go_wp2_with (first | (go_at_call 191; (with_reducible refine (aig _ _ H).mono ?_); rintro e X ⟨rfl, rfl⟩) | (go_at_call 193; (with_reducible refine (ak8 _ (s.size : Int) A Y H).mono ?_); rintro e X ⟨h, rfl, E, F⟩; rw [Int.toNat_natCast] at E) | (at_builtin; refine aon (base := w.heap.size) rfl (.tmp 27) (.tmp 28) rfl h (be A s.size) rfl E s rfl (by rw [K.out]; have := J.le; omega) F.size ?_; intro r2 w2 W M; have D := F.grown M F.size (fun j e => E.ge e); have O := Z.pure D) | (go_at_call 192; (with_reducible refine (ak9 _ _ _ L (be A s.size ++ s.data.toList) O (W.slc aaa) (by rw [jz, K.out, U.out]; exact J.mono (by omega))).mono ?_); rintro e w3 ⟨r3, rfl, G, N⟩))
 go_ret2
 exact ⟨_, rfl, G.rebase (fun i hi => jk D.size (G.ge hi)), D.trans (N.mono D.size)⟩
def RdS (w : World) (vb : Nat) (b : List UInt8) (bad : Bool) : Prop :=
 ∃ bv, Blk w vb [bv, .bool true, .bool bad] ∧ Slc aax 1 w bv b ∧ ∀ k, bv.ownBlock = some k → k < vb
def RdP (w : World) (rb vb : Nat) : Prop := Blk w rb [.pointer (some ⟨vb, 0, none⟩)] ∧ vb < rb
def acu (vb : Nat) (k : Nat) : Prop := k = vb
theorem RdS.pure {w w' : World} {E : Nat} {b : List UInt8} {A : Bool} (h : RdS w E b A) (D : Below w.heap.size w w') : RdS w' E b A := by
 obtain ⟨bv, F, G, H⟩ := h
 exact ⟨bv, F.pure D, G.pure D, H⟩
theorem RdS.lt {w : World} {A : Nat} {b : List UInt8} {D : Bool} (h : RdS w A b D) : A < w.heap.size := by
 obtain ⟨bv, E, _⟩ := h; exact E.lt
theorem RdP.pure {w w' : World} {A D : Nat} (h : RdP w A D) (E : Below w.heap.size w w') : RdP w' A D := ⟨h.1.pure E, h.2⟩
theorem RdP.upd {w w' : World} {D A : Nat} (h : RdP w D A) (E : Upd (acu A) w w') : RdP w' D A := ⟨h.1.upd E (fun e => Nat.ne_of_gt h.2 e), h.2⟩
theorem ass (w : World) (D : Nat) (b : List UInt8) (E : Bool) (h : RdS w D b E) :
 Calls prog 198 #[.pointer (some ⟨D, 0, none⟩)] w fun e w' => e = .returned (.int .i64 b.length) ∧ w = w' := by
 obtain ⟨bv, A, F, G⟩ := h
 obtain ⟨a, c, rfl, -⟩ := F.len
 have c0 := A.at 0 rfl
 clear A G
 go_enter func198, ntmps198
 go_wp2
 go_ret
 exact ⟨rfl, rfl⟩
theorem avx (w : World) (E : Nat) (b : List UInt8) (A : Bool) (h : RdS w E b A) :
 Calls prog 202 #[.pointer (some ⟨E, 0, none⟩)] w fun e w' => e = .returned (.bool A) ∧ w = w' := by
 obtain ⟨bv, D, F, G⟩ := h
 have c1 := D.at 1 rfl
 have c2 := D.at 2 rfl
 clear D G F
 cases A
 all_goals
  go_enter func202, ntmps202; go_wp2; go_ret; exact ⟨rfl, rfl⟩
theorem aeh (w : World) (E A : Nat) (b : List UInt8) (D : Bool) (F : RdP w E A) (h : RdS w A b D) :
 Calls prog 171 #[.pointer (some ⟨E, 0, none⟩)] w fun e w' => e = .returned (.int .i64 b.length) ∧ w = w' := by
 have c0 := F.1.at 0 rfl
 go_enter func171, ntmps171
 go_wp2_with (go_at_call 198; (with_reducible refine (ass _ A b D h).mono ?_); rintro e G ⟨rfl, rfl⟩)
 go_ret
 exact ⟨rfl, rfl⟩
theorem aei (w : World) (E D : Nat) (b : List UInt8) (A : Bool) (F : RdP w E D) (h : RdS w D b A) :
 Calls prog 173 #[.pointer (some ⟨E, 0, none⟩)] w fun e w' => e = .returned (.bool A) ∧ w = w' := by
 have c0 := F.1.at 0 rfl
 go_enter func173, ntmps173
 go_wp2_with (go_at_call 202; (with_reducible refine (avx _ D b A h).mono ?_); rintro e G ⟨rfl, rfl⟩)
 go_ret
 exact ⟨rfl, rfl⟩
theorem Slc.nil0 {α : Type} {enc : α → List Value} {m : Nat} {w : World} : Slc enc m w (.slice none 0 0) [] :=   .inl ⟨Option.none, 0, rfl, by unfold maxLen; omega, rfl⟩
theorem ae3 (w : World) (E A : Nat) (b : List UInt8) (F : Bool) (G : RdP w E A) (h : RdS w A b F) :
 Calls prog 196 #[.pointer (some ⟨E, 0, none⟩)] w fun e w' => e = .returned (.tuple #[]) ∧ RdS w' A [] true ∧ Upd (acu A) w w' := by
 obtain ⟨bv, D, I, J⟩ := h
 have c0 := G.1.at 0 rfl
 have N := D.at 0 rfl
 have M := D.at 2 rfl
 have K := D.frozen 0
 have H := D.frozen 2
 go_enter func196, ntmps196
 go_wp2
 go_region
 all_goals
  go_end0; refine ⟨rfl, ⟨_, (D.set 0 (.slice none 0 0)).set 2 (.bool true), Slc.nil0, fun k e => by cases e⟩, ?_⟩; exact ((Upd.set (p := ⟨A, 0, none⟩) (S := acu A) rfl _).trans (Upd.set (p := ⟨A, 2, none⟩) (S := acu A) rfl _) (fun _ h _ => h)).drew
theorem al5 (w : World) (I A : Nat) (b : List UInt8) (n : Nat) (H : RdP w I A) (h : RdS w A b false) (hn : n ≤ b.length) (hL : Big b.length) :
 Calls prog 168 #[.pointer (some ⟨I, 0, none⟩), .int .i64 n] w fun e w' => ∃ r, e = .returned r ∧ Own w.heap.size 5 1 aax w' r (b.take n) ∧ RdS w' A (b.drop n) false ∧ Upd (acu A) w w' := by
 have hs := h
 obtain ⟨bv, Y, M, Z⟩ := h
 obtain ⟨a, aa, rfl, -⟩ := M.len
 have c0 := H.1.at 0 rfl
 have d0 := Y.at 0 rfl
 have aj : decide ((n : Int) < 0) = false := qg (by omega)
 have ai : (0 : Int) ≤ (n : Int) := by omega
 have ad : (n : Int) ≤ (b.length : Int) := by omega
 have ag : decide ((b.length : Int) < (n : Int)) = false := qg (by omega)
 have ae : decide (b.length < n) = false := qg (by omega)
 go_enter func168, ntmps168
 go_upto_region 5 with (first | (go_at_call 173; (with_reducible refine (aei _ I A b false H hs).mono ?_); rintro e w1 ⟨rfl, rfl⟩) | (go_at_call 171; (with_reducible refine (aeh _ I A b false H hs).mono ?_); rintro e w1 ⟨rfl, rfl⟩) | (refine am1 (x := .tmp 26) (y := .tmp 27) (u := n) rfl rfl abx rfl M rfl rfl hn ?_; intro v1 ab) | (go_at_call 195; (with_reducible refine (ak7 _ v1 (b.take n) ab (hL.mono (List.length_take_le' _ _))).mono ?_); rintro e G ⟨r2, rfl, X, F⟩))
 have ac := F
 have hp2 := H.pure F
 have K := Y.pure F
 have ah := hp2.1.at 0 rfl
 have ak := K.at 0 rfl
 have af := K.frozen 0
 clear c0 d0
 have E := (M.part hn (qj _)).pure F
 rw [js] at E
 unfold sliced at E
 have N : ∀ v : Value, Own w.heap.size 5 1 aax (G.setCell ⟨A, 0, none⟩ v).drew r2 (b.take n) := fun v => (X.other ⟨A, 0, none⟩ v (fun k D e => by have := X.ge D; have := hs.lt; simp only at e; omega)).drew
 have O : ∀ v : Value, Slc aax 1 G v (b.drop n) → (∀ k, v.ownBlock = some k → k < A) → RdS (G.setCell ⟨A, 0, none⟩ v).drew A (b.drop n) false := fun v hv W => ⟨v, K.set 0 v, (hv.other ⟨A, 0, none⟩ v (fun k D => Nat.ne_of_lt (W k D))), W⟩
 have U : ∀ v : Value, Upd (acu A) w (G.setCell ⟨A, 0, none⟩ v).drew := fun v => ((Upd.of_below F).trans (Upd.set (S := acu A) (p := ⟨A, 0, none⟩) rfl v) (fun i h _ => h)).drew
 by_cases J : aa = n
 ·rw [qw J] at E
  subst J; rw [Nat.sub_self] at E; go_region
  all_goals
   go_wp2; go_ret; exact ⟨_, rfl, N _, O _ E (fun k D => Z k (by cases a with | none => exact D | some x => exact D)), U _⟩
 ·rw [qk J, Nat.mul_one] at E
  go_region
  all_goals
   go_wp2; go_ret; refine ⟨_, rfl, N _, O _ ?_ ?_, U _⟩
   ·exact E
   ·intro k D
    refine Z k ?_
    cases a with
    | none => exact D
    | some x => rw [← D]; simp [Value.ownBlock, Addr.add]; split <;> rfl
theorem al6 (x : Nat) (A : x < 2^64) : (BitVec.ofInt IntKind.u64.bits (x : Int)).toNat = x := by
 rw [BitVec.toNat_ofInt]; show ((x : Int) % ((2^64 : Nat) : Int)).toNat = x
 omega
theorem bau (x : Int) (A : 0 ≤ x) (h : x < 18446744073709551616) : IntKind.u64.wrap x = x := by
 have e : IntKind.u64.wrap x = x % 18446744073709551616 := rfl
 rw [e]; omega
theorem ax8 (x y : Nat) (A : x < 2^64) (hy : y < 2^64) : bits .or .u64 (x : Int) (y : Int) = ((x ||| y : Nat) : Int) := by
 have h : x ||| y < 2^64 := Nat.or_lt_two_pow A hy
 unfold bits
 simp only [BitVec.toNat_or, al6 x A, al6 y hy]
 exact bau _ (by omega) (by omega)
theorem ay1 (a c : Nat) (A : a < 256 ^ 7) (D : c < 256) : bits .or .u64 (IntKind.u64.wrap ((a : Int) * 256)) (IntKind.u64.wrap (c : Int)) = ((256 * a + c : Nat) : Int) := by
 rw [bau _ (by omega) (by omega), bau _ (by omega) (by omega)]
 have : (a : Int) * 256 = ((256 * a : Nat) : Int) := by omega
 rw [this, ax8 _ _ (by omega) (by omega)]
 have := Nat.two_pow_add_eq_or_of_lt (i := 8) (b := c) (by omega) a
 rw [show 256 * a ||| c = 256 * a + c from this.symm]
theorem ast (w : World) (D A : Nat) (b : List UInt8) (G : Bool) (n : Nat) (E : RdP w D A) (hs : RdS w A b G) (I : G = true ∨ b.length < n) :
 Calls prog 168 #[.pointer (some ⟨D, 0, none⟩), .int .i64 n] w fun e w' => e = .returned (.slice none 0 0) ∧ RdS w' A [] true ∧ Upd (acu A) w w' := by
 have U : decide ((n : Int) < 0) = false := qg (by omega)
 have O : (0 : Int) ≤ (n : Int) := by omega
 cases G
 ·have M : b.length < n := by simpa using I
  have N : decide ((b.length : Int) < (n : Int)) = true := qp (by omega); have W : decide (b.length < n) = true := qp (by omega); clear I; go_enter func168, ntmps168; go_wp2_with (first | (go_at_call 173; (with_reducible refine (aei _ D A b false E hs).mono ?_); rintro e J ⟨rfl, rfl⟩) | (go_at_call 171; (with_reducible refine (aeh _ D A b false E hs).mono ?_); rintro e J ⟨rfl, rfl⟩) | (go_at_call 196; (with_reducible refine (ae3 _ D A b false E hs).mono ?_); rintro e K ⟨rfl, H, F⟩)); go_ret; exact ⟨rfl, H, F⟩
 ·clear I
  go_enter func168, ntmps168; go_wp2_with (first | (go_at_call 173; (with_reducible refine (aei _ D A b true E hs).mono ?_); rintro e J ⟨rfl, rfl⟩) | (go_at_call 196; (with_reducible refine (ae3 _ D A b true E hs).mono ?_); rintro e K ⟨rfl, H, F⟩)); go_ret; exact ⟨rfl, H, F⟩
theorem asu (w : World) (F A : Nat) (b : List UInt8) (E : Bool) (D : Nat) (O : RdP w F A) (hs : RdS w A b E) (N : Wd D) (M : E = true ∨ b.length < D) :
 Calls prog 169 #[.pointer (some ⟨F, 0, none⟩), .int .i64 D] w fun e w' => e = .returned (.int .u64 0) ∧ RdS w' A [] true ∧ Upd (acu A) w w' := by
 go_enter func169, ntmps169
 go_wp2_with (first | (go_at_call 191; (with_reducible refine (aig _ _ N).mono ?_); rintro e U ⟨rfl, rfl⟩) | (go_at_call 168; (with_reducible refine (ast _ F A b E D O hs M).mono ?_); rintro e K ⟨rfl, I, G⟩))
 go_loopw [5, 17] (fun J H wr => J = .int .u64 0 ∧ H = .int .i64 0 ∧ wr = K) (fun _ _ _ => 0)
 case atStart => exact ⟨rfl, rfl, rfl⟩
 case round =>
  obtain ⟨rfl, rfl, rfl⟩ := hrel; go_wp2; go_ret; exact ⟨rfl, I, G⟩
theorem ai2 (w : World) (M E : Nat) (b : List UInt8) (A n : Nat) (r : List UInt8) (hp : RdP w M E) (hs : RdS w E b false) (U : Wd A) (D : gN A b = some (n, r)) (hL : Big b.length) :
 Calls prog 169 #[.pointer (some ⟨M, 0, none⟩), .int .i64 A] w fun e w' => e = .returned (.int .u64 n) ∧ RdS w' E r false ∧ Upd (acu E) w w' := by
 have ab : A ≤ b.length ∧ n = aoc (b.take A) ∧ r = b.drop A := by
  unfold gN at D; split at D
  ·simp only [jy, jm] at D
   exact ⟨by assumption, D.1.symm, D.2.symm⟩
  ·simp at D
 obtain ⟨hl, rfl, rfl⟩ := ab
 clear D
 have ac : A ≤ 8 := by unfold Wd at U; omega
 have J := qq (show (b.take A).length = A by rw [List.length_take]; omega)
 obtain ⟨bs, F⟩ := qx (b.take A)
 rw [F]
 have I := qq (show bs.length = A by rw [← F]; exact J.out)
 have W := qq F
 clear J F
 go_enter func169, ntmps169
 go_wp2_with (first | (go_at_call 191; (with_reducible refine (aig _ _ U).mono ?_); rintro e w1 ⟨rfl, rfl⟩) | (go_at_call 168; (with_reducible refine (al5 _ M E b A hp hs hl hL).mono ?_); rintro e w2 ⟨r2, rfl, G, aa, Y⟩; rw [W.out] at G; obtain ⟨ra, rc, O⟩ := aap G; rw [I.out] at O; subst O))
 go_loopw [5, 17] (fun s5 K wr => ∃ k : Nat, k ≤ A ∧ K = .int .i64 k ∧ s5 = .int .u64 (aoc (bs.take k)) ∧ wr = w2) (fun _ K _ => A - (intOf K).toNat)
 case atStart => exact ⟨0, by omega, rfl, rfl, rfl⟩
 case round =>
  obtain ⟨k, hk, rfl, rfl, rfl⟩ := hrel; by_cases J : k < A
  ·have H : k < bs.length := by have := I.out; omega
   obtain ⟨g, rfl, -⟩ := abr G H; have hc := G.cell aaa k H 0 _ rfl; have h0 : (0 : Int) ≤ (k : Int) := by omega
   have h1 : (k : Int) < (A : Int) := by omega
   rw [Nat.mul_one, Nat.add_zero] at hc
   have N : aoc (bs.take k) < 256 ^ 7 := by
    have h := asf (bs.take k); rw [List.length_take] at h; exact jg h (Nat.pow_le_pow_right (by omega) (by omega))
   have X := qq (ay1 (aoc (bs.take k)) bs[k].toNat N bs[k].toNat_lt); have Z := qq (show aoc (bs.take (k + 1)) = 256 * aoc (bs.take k) + bs[k].toNat by rw [jx H, agv]); clear N; go_wp2; go_roundw
   case rel => exact ⟨k + 1, by omega, by go_num, by rw [X.out, Z.out], trivial⟩
   case measure => simp [intOf]; omega
  ·obtain rfl : k = A := by omega
   go_wp2; go_ret; have e : bs.take k = bs := by have := I.out; rw [List.take_of_length_le (by omega)]
   exact ⟨by rw [e]; rfl, aa, Y⟩
end Go.Proofs.YtgnaifhmcllnlaaGreatDoor
