/- Bytes: slices of bytes as lists, append of a string, make with room, string of bytes. Conditions: none. (Texts joined.) -/
import Derived.Test.YtgnaifhmcllnlaaGreatDoorAbb
import Derived.WalkSpells
import Derived.WalkLawsBesides
import Derived.BigQuiet
import Derived.Deep.RegionHeld3
import Derived.Test.YtgnaifhmcllnlaaGreatDoorProg
import Derived.Deep.Cut
set_option linter.unusedSimpArgs false
set_option linter.unusedVariables false
namespace Go.Proofs.YtgnaifhmcllnlaaGreatDoor
open Go.RowKit Tryz
structure Upd (S : Nat → Prop) (w w' : World) : Prop where
 os : w'.os = w.os
 tape : w'.tape = w.tape
 output : w'.output = w.output
 size : w.heap.size ≤ w'.heap.size
 block : ∀ k, k < w.heap.size → ¬ S k → w'.heap[k]? = w.heap[k]?
theorem Upd.refl (S : Nat → Prop) (w : World) : Upd S w w := ⟨rfl, rfl, rfl, qj _, fun _ _ _ => rfl⟩
theorem Upd.trans {S T : Nat → Prop} {a b c : World} (h : Upd S a b) (k : Upd T b c) (hT : ∀ i, T i → i < a.heap.size → S i) : Upd S a c :=
 ⟨k.os.trans h.os, k.tape.trans h.tape, k.output.trans h.output, jk h.size k.size, fun i hi hs =>
  (k.block i (jg hi h.size) (fun ht => hs (hT i ht hi))).trans (h.block i hi hs)⟩
theorem Upd.mono {S T : Nat → Prop} {a b : World} (h : Upd S a b) (hT : ∀ i, S i → i < a.heap.size → T i) : Upd T a b :=
 ⟨h.os, h.tape, h.output, h.size, fun i hi hs => h.block i hi (fun ht => hs (hT i ht hi))⟩
theorem Upd.of_below {S : Nat → Prop} {w w' : World} (h : Below w.heap.size w w') : Upd S w w' :=
 ⟨h.os, h.tape, h.output, h.size, fun k hk _ => h.block k hk⟩
theorem Upd.below {S : Nat → Prop} {w w' : World} {B : Nat} (h : Upd S w w') (hB : B ≤ w.heap.size) (hS : ∀ k, S k → B ≤ k) : Below B w w' :=
 ⟨h.os, h.tape, h.output, h.size, fun k hk => h.block k (by omega) (fun hs => by have := hS k hs; omega)⟩
theorem Upd.set {S : Nat → Prop} {w : World} {p : Addr} (hp : S p.block) (u : Value) : Upd S w (w.setCell p u) :=
 ⟨rfl, rfl, rfl, by simp, fun k _ hs => Below.heap_setCell _ _ _ _ (fun e => hs (e ▸ hp))⟩
theorem Upd.grown {S : Nat → Prop} {w w' : World} {row : Option Nat} (hg : w.grownBy w' row) (hr : ∀ k, row = some k → S k) : Upd S w w' :=
 ⟨hg.os, hg.tape, hg.output, hg.size, fun k hk hs => hg.block k hk (fun e => hs (hr k e.symm))⟩
theorem Upd.drew {S : Nat → Prop} {a w : World} (h : Upd S a w) : Upd S a w.drew := ⟨h.os, h.tape, h.output, h.size, h.block⟩
theorem Upd.cell {S : Nat → Prop} {w w' : World} (h : Upd S w w') {p : Addr} (hp : p.block < w.heap.size) (hs : ¬ S p.block) : w'.cell? p = w.cell? p :=
 World.cell?_of_block (w := w) (h.block p.block hp hs)
def Blk (w : World) (b : Nat) (cs : List Value) : Prop := ∃ T, w.heap[b]? = some (.cells cs.toArray T (0, 0))
theorem Blk.lt {w : World} {b : Nat} {cs : List Value} (h : Blk w b cs) : b < w.heap.size := by
 obtain ⟨T, h⟩ := h; exact (Array.getElem?_eq_some_iff.1 h).1
theorem Blk.cell {w : World} {b : Nat} {cs : List Value} (h : Blk w b cs) (i : Nat) : w.cell? ⟨b, i, none⟩ = cs[i]? := by
 obtain ⟨T, h⟩ := h; simp [World.cell?, h]
theorem Blk.frozen {w : World} {b : Nat} {cs : List Value} (h : Blk w b cs) (i : Nat) : w.frozen? ⟨b, i, none⟩ = false := by
 obtain ⟨T, h⟩ := h; simp [World.frozen?, h]
theorem Blk.keep {w w' : World} {b : Nat} {cs : List Value} (h : Blk w b cs) (hk : w'.heap[b]? = w.heap[b]?) : Blk w' b cs := by
 obtain ⟨T, h⟩ := h; exact ⟨T, hk.trans h⟩
theorem Blk.upd {S : Nat → Prop} {w w' : World} {b : Nat} {cs : List Value} (h : Blk w b cs) (hu : Upd S w w') (hs : ¬ S b) : Blk w' b cs :=
 h.keep (hu.block b h.lt hs)
theorem Blk.below {w w' : World} {b B : Nat} {cs : List Value} (h : Blk w b cs) (hu : Below B w w') (hs : b < B) : Blk w' b cs :=
 h.keep (hu.block b hs)
theorem Blk.pure {w w' : World} {b : Nat} {cs : List Value} (h : Blk w b cs) (hu : Below w.heap.size w w') : Blk w' b cs :=
 h.keep (hu.block b h.lt)
theorem Blk.set {w : World} {b : Nat} {cs : List Value} (h : Blk w b cs) (i : Nat) (v : Value) : Blk (w.setCell ⟨b, i, none⟩ v) b (cs.set i v) := by
 obtain ⟨T, h⟩ := h
 refine ⟨T, ?_⟩
 show (w.heap.modify b _)[b]? = _
 rw [Array.getElem?_modify, qw rfl, h]
 simp
theorem Blk.other {w : World} {b : Nat} {cs : List Value} (h : Blk w b cs) (p : Addr) (v : Value) (hne : b ≠ p.block) : Blk (w.setCell p v) b cs :=
 h.keep (Below.heap_setCell _ _ _ _ hne)
theorem Blk.alloc {w : World} {b : Nat} {cs : List Value} (h : Blk w b cs) (o : Obj) : Blk (w.alloc o) b cs :=
 h.keep (Below.heap_alloc _ _ _ h.lt)
theorem Blk.new (w : World) (cs : List Value) (T : TypeId) : Blk (w.alloc (.cells cs.toArray T)) w.heap.size cs :=
 ⟨T, heap_alloc_new w _⟩
theorem Blk.drew {w : World} {b : Nat} {cs : List Value} (h : Blk w b cs) : Blk w.drew b cs := h
def Slc {α : Type} (enc : α → List Value) (m : Nat) (w : World) (v : Value) (L : List α) : Prop :=
 (∃ a cap, v = .slice a 0 cap ∧ cap ≤ maxLen ∧ L = []) ∨
 ∃ g off cap, v = .slice (some ⟨g, off, none⟩) L.length cap ∧ L.length ≤ cap ∧ cap ≤ maxLen ∧
  ∀ i, (h : i < L.length) → ∀ j u, (enc L[i])[j]? = some u → w.cell? ⟨g, off + i * m + j, none⟩ = some u
theorem Slc.keep {α : Type} {enc : α → List Value} {m : Nat} {w w' : World} {v : Value} {L : List α} (h : Slc enc m w v L)
 (hk : ∀ p : Addr, p.block < w.heap.size → some p.block = v.ownBlock → w'.cell? p = w.cell? p) : Slc enc m w' v L := by
 rcases h with h | ⟨g, off, cap, hv, h1, h2, h3⟩
 ·exact .inl h
 ·refine .inr ⟨g, off, cap, hv, h1, h2, fun i hi j u hu => ?_⟩
  have := h3 i hi j u hu; rw [hk _ (World.block_lt_of_cell? w _ this) (by rw [hv]; rfl)]; exact this
theorem Slc.pure {α : Type} {enc : α → List Value} {m : Nat} {w w' : World} {v : Value} {L : List α} (h : Slc enc m w v L)
 (hb : Below w.heap.size w w') : Slc enc m w' v L := h.keep fun _ hp _ => hb.cell hp
theorem Slc.upd {α : Type} {enc : α → List Value} {m : Nat} {S : Nat → Prop} {w w' : World} {v : Value} {L : List α} (h : Slc enc m w v L)
 (hb : Upd S w w') (hS : ∀ k, v.ownBlock = some k → ¬ S k) : Slc enc m w' v L := h.keep fun _ hp e => hb.cell hp (hS _ e.symm)
theorem Slc.nil {α : Type} (enc : α → List Value) (m : Nat) (w : World) : Slc enc m w (.slice none 0 0) ([] : List α) := .inl ⟨none, 0, rfl, by simp, rfl⟩
theorem Slc.get {α : Type} {enc : α → List Value} {m : Nat} {w : World} {g off n cap : Nat} {L : List α} (h : Slc enc m w (.slice (some ⟨g, off, none⟩) n cap) L) (i : Nat) (hi : i < L.length) (j : Nat) (u : Value)
 (hu : (enc L[i])[j]? = some u) : w.cell? ⟨g, off + i * m + j, none⟩ = some u := by
 rcases h with ⟨_, _, _, _, rfl⟩ | ⟨g', off', cap', hv, _, _, hc⟩
 ·simp at hi
 ·simp only [Value.slice.injEq, jy, Addr.mk.injEq, and_true] at hv
  obtain ⟨⟨rfl, rfl⟩, _, _⟩ := hv; exact hc i hi j u hu
theorem Slc.len {α : Type} {enc : α → List Value} {m : Nat} {w : World} {v : Value} {L : List α} (h : Slc enc m w v L) :
 ∃ a cap, v = .slice a L.length cap ∧ L.length ≤ maxLen := by
 rcases h with ⟨a, cap, rfl, hc, rfl⟩ | ⟨g, off, cap, hv, h1, h2, _⟩
 ·exact ⟨a, cap, rfl, by simp⟩
 ·exact ⟨_, cap, hv, by omega⟩
theorem aic {α : Type} {enc : α → List Value} {m : Nat} (hm : ∀ x, (enc x).length = m) :
 ∀ (L : List α) (i : Nat) (h : i < L.length) (j : Nat) (u : Value), (enc L[i])[j]? = some u → (L.flatMap enc)[i * m + j]? = some u
 | [], i, h, _, _, _ => jp h (by simp)
 | x :: L, 0, _, j, u, hu => by
  have hj : j < (enc x).length := (List.getElem?_eq_some_iff.1 hu).1; simp only [List.flatMap_cons, Nat.zero_mul, Nat.zero_add]; rw [List.getElem?_append_left hj]; exact hu
 | x :: L, i + 1, h, j, u, hu => by
  simp only [List.flatMap_cons]; rw [List.getElem?_append_right (by rw [hm, Nat.add_mul]; omega)]; have := aic hm L i (by simpa using h) j u hu; rw [hm]; rw [show (i + 1) * m + j - m = i * m + j by rw [Nat.add_mul]; omega]; exact this
theorem abp {α : Type} {enc : α → List Value} {m : Nat} (hm : ∀ x, (enc x).length = m) (L : List α) : (L.flatMap enc).length = L.length * m := by
 induction L with
 | nil => simp
 | cons x L ih => simp [hm, ih, Nat.add_mul]; omega
theorem Slc.own {α : Type} {enc : α → List Value} {m : Nat} (hm : ∀ x, (enc x).length = m) {w : World} {base : Nat} {e : TypeId} {v : Value} {n : Nat} {L : List α}
 (h : w.ownsRow base e m v n (L.flatMap enc)) (hn : n = L.length) : Slc enc m w v L := by
 subst hn
 rcases h.2 with ⟨hv, h0⟩ | ⟨g, cap, cur, hv, hb, hg, h1, h2, h3, h4⟩
 ·exact .inl ⟨none, 0, hv, by simp, List.eq_nil_of_length_eq_zero h0⟩
 ·refine .inr ⟨g, 0, cap, hv, h1, h2, fun i hi j u hu => ?_⟩
  have := h.cells (g := g) (by rw [hv]; rfl) (i * m + j) u (aic hm L i hi j u hu)
  have e : (⟨g, 0, none⟩ : Addr).add (i * m + j) = ⟨g, 0 + i * m + j, none⟩ := by
   unfold Addr.add; split <;> simp_all
  rw [← e]; exact this
theorem acr (s : ByteArray) : s.toList.length = s.size := by rw [ByteArray.toList_eq]; exact Array.length_toList
theorem agt {s : ByteArray} (h : s.size = 0) : s.toList.isEmpty = true := by
 rw [List.isEmpty_iff]; exact List.eq_nil_of_length_eq_zero (by rw [acr]; exact h)
theorem aeg {s : ByteArray} (h : 0 < s.size) : s.toList.isEmpty = false := by
 rw [Bool.eq_false_iff]; intro e; rw [List.isEmpty_iff] at e; have := acr s; rw [e] at this; simp at this; omega
theorem toList_inj {s t : ByteArray} (h : s.toList = t.toList) : s = t := by
 rw [ByteArray.toList_eq, ByteArray.toList_eq] at h
 cases s; cases t; congr 1; exact Array.toList_inj.1 h
theorem aid (s t : ByteArray) : (s.toList == t.toList) = true ↔ s = t := by
 rw [beq_iff_eq]; exact ⟨toList_inj, fun h => by rw [h]⟩
theorem avs {α : Type} {p : α → Bool} {L : List α} {k : Nat} (hk : k < L.length) (h : (L.take k).findIdx? p = none) (hq : p L[k] = false) :
 (L.take (k + 1)).findIdx? p = none := by
 rw [jx hk, List.findIdx?_append, h]
 simp [List.findIdx?_cons, hq]
theorem asb {α : Type} {p : α → Bool} {L : List α} {k : Nat} (hk : k < L.length) (h : (L.take k).findIdx? p = none) (hq : p L[k] = true) :
 L.findIdx? p = some k := by
 rw [List.findIdx?_eq_some_iff_getElem]
 refine ⟨hk, hq, fun j hj => ?_⟩
 rw [List.findIdx?_eq_none_iff] at h
 have := h (L[j]'(by omega)) (by
  rw [List.mem_take_iff_getElem]
  exact ⟨j, by omega, rfl⟩)
 simpa using this
theorem Blk.at {w : World} {b : Nat} {cs : List Value} (h : Blk w b cs) (i : Nat) {u : Value} (hu : cs[i]? = some u) : w.cell? ⟨b, i, none⟩ = some u := (h.cell i).trans hu
open Tryz
variable {w : World} {b : Nat} {l : List Value} {c0 c1 c2 c3 c4 c5 c6 c7 c8 c9 c10 c11 c12 c13 c14 c15 : Value}
theorem Blk.a2 (h : Blk w b (c0 :: c1 :: l)) : w.cell? ⟨b, 0, none⟩ = some c0 ∧ w.cell? ⟨b, 1, none⟩ = some c1 := ⟨h.at 0 rfl, h.at 1 rfl⟩
theorem Blk.a3 (h : Blk w b (c0 :: c1 :: c2 :: l)) : w.cell? ⟨b, 0, none⟩ = some c0 ∧ w.cell? ⟨b, 1, none⟩ = some c1 ∧ w.cell? ⟨b, 2, none⟩ = some c2 := ⟨h.at 0 rfl, h.at 1 rfl, h.at 2 rfl⟩
theorem Blk.a4 (h : Blk w b (c0 :: c1 :: c2 :: c3 :: l)) : w.cell? ⟨b, 0, none⟩ = some c0 ∧ w.cell? ⟨b, 1, none⟩ = some c1 ∧ w.cell? ⟨b, 2, none⟩ = some c2 ∧ w.cell? ⟨b, 3, none⟩ = some c3 := ⟨h.at 0 rfl, h.at 1 rfl, h.at 2 rfl, h.at 3 rfl⟩
theorem Blk.a5 (h : Blk w b (c0 :: c1 :: c2 :: c3 :: c4 :: l)) : w.cell? ⟨b, 0, none⟩ = some c0 ∧ w.cell? ⟨b, 1, none⟩ = some c1 ∧ w.cell? ⟨b, 2, none⟩ = some c2 ∧ w.cell? ⟨b, 3, none⟩ = some c3 ∧ w.cell? ⟨b, 4, none⟩ = some c4 := ⟨h.at 0 rfl, h.at 1 rfl, h.at 2 rfl, h.at 3 rfl, h.at 4 rfl⟩
theorem Blk.a6 (h : Blk w b (c0 :: c1 :: c2 :: c3 :: c4 :: c5 :: l)) : w.cell? ⟨b, 0, none⟩ = some c0 ∧ w.cell? ⟨b, 1, none⟩ = some c1 ∧ w.cell? ⟨b, 2, none⟩ = some c2 ∧ w.cell? ⟨b, 3, none⟩ = some c3 ∧ w.cell? ⟨b, 4, none⟩ = some c4 ∧ w.cell? ⟨b, 5, none⟩ = some c5 := ⟨h.at 0 rfl, h.at 1 rfl, h.at 2 rfl, h.at 3 rfl, h.at 4 rfl, h.at 5 rfl⟩
theorem Blk.a7 (h : Blk w b (c0 :: c1 :: c2 :: c3 :: c4 :: c5 :: c6 :: l)) : w.cell? ⟨b, 0, none⟩ = some c0 ∧ w.cell? ⟨b, 1, none⟩ = some c1 ∧ w.cell? ⟨b, 2, none⟩ = some c2 ∧ w.cell? ⟨b, 3, none⟩ = some c3 ∧ w.cell? ⟨b, 4, none⟩ = some c4 ∧ w.cell? ⟨b, 5, none⟩ = some c5 ∧ w.cell? ⟨b, 6, none⟩ = some c6 := ⟨h.at 0 rfl, h.at 1 rfl, h.at 2 rfl, h.at 3 rfl, h.at 4 rfl, h.at 5 rfl, h.at 6 rfl⟩
theorem Blk.a8 (h : Blk w b (c0 :: c1 :: c2 :: c3 :: c4 :: c5 :: c6 :: c7 :: l)) : w.cell? ⟨b, 0, none⟩ = some c0 ∧ w.cell? ⟨b, 1, none⟩ = some c1 ∧ w.cell? ⟨b, 2, none⟩ = some c2 ∧ w.cell? ⟨b, 3, none⟩ = some c3 ∧ w.cell? ⟨b, 4, none⟩ = some c4 ∧ w.cell? ⟨b, 5, none⟩ = some c5 ∧ w.cell? ⟨b, 6, none⟩ = some c6 ∧ w.cell? ⟨b, 7, none⟩ = some c7 := ⟨h.at 0 rfl, h.at 1 rfl, h.at 2 rfl, h.at 3 rfl, h.at 4 rfl, h.at 5 rfl, h.at 6 rfl, h.at 7 rfl⟩
theorem Blk.a9 (h : Blk w b (c0 :: c1 :: c2 :: c3 :: c4 :: c5 :: c6 :: c7 :: c8 :: l)) : w.cell? ⟨b, 0, none⟩ = some c0 ∧ w.cell? ⟨b, 1, none⟩ = some c1 ∧ w.cell? ⟨b, 2, none⟩ = some c2 ∧ w.cell? ⟨b, 3, none⟩ = some c3 ∧ w.cell? ⟨b, 4, none⟩ = some c4 ∧ w.cell? ⟨b, 5, none⟩ = some c5 ∧ w.cell? ⟨b, 6, none⟩ = some c6 ∧ w.cell? ⟨b, 7, none⟩ = some c7 ∧ w.cell? ⟨b, 8, none⟩ = some c8 := ⟨h.at 0 rfl, h.at 1 rfl, h.at 2 rfl, h.at 3 rfl, h.at 4 rfl, h.at 5 rfl, h.at 6 rfl, h.at 7 rfl, h.at 8 rfl⟩
theorem Blk.a10 (h : Blk w b (c0 :: c1 :: c2 :: c3 :: c4 :: c5 :: c6 :: c7 :: c8 :: c9 :: l)) : w.cell? ⟨b, 0, none⟩ = some c0 ∧ w.cell? ⟨b, 1, none⟩ = some c1 ∧ w.cell? ⟨b, 2, none⟩ = some c2 ∧ w.cell? ⟨b, 3, none⟩ = some c3 ∧ w.cell? ⟨b, 4, none⟩ = some c4 ∧ w.cell? ⟨b, 5, none⟩ = some c5 ∧ w.cell? ⟨b, 6, none⟩ = some c6 ∧ w.cell? ⟨b, 7, none⟩ = some c7 ∧ w.cell? ⟨b, 8, none⟩ = some c8 ∧ w.cell? ⟨b, 9, none⟩ = some c9 := ⟨h.at 0 rfl, h.at 1 rfl, h.at 2 rfl, h.at 3 rfl, h.at 4 rfl, h.at 5 rfl, h.at 6 rfl, h.at 7 rfl, h.at 8 rfl, h.at 9 rfl⟩
theorem Blk.a11 (h : Blk w b (c0 :: c1 :: c2 :: c3 :: c4 :: c5 :: c6 :: c7 :: c8 :: c9 :: c10 :: l)) : w.cell? ⟨b, 0, none⟩ = some c0 ∧ w.cell? ⟨b, 1, none⟩ = some c1 ∧ w.cell? ⟨b, 2, none⟩ = some c2 ∧ w.cell? ⟨b, 3, none⟩ = some c3 ∧ w.cell? ⟨b, 4, none⟩ = some c4 ∧ w.cell? ⟨b, 5, none⟩ = some c5 ∧ w.cell? ⟨b, 6, none⟩ = some c6 ∧ w.cell? ⟨b, 7, none⟩ = some c7 ∧ w.cell? ⟨b, 8, none⟩ = some c8 ∧ w.cell? ⟨b, 9, none⟩ = some c9 ∧ w.cell? ⟨b, 10, none⟩ = some c10 := ⟨h.at 0 rfl, h.at 1 rfl, h.at 2 rfl, h.at 3 rfl, h.at 4 rfl, h.at 5 rfl, h.at 6 rfl, h.at 7 rfl, h.at 8 rfl, h.at 9 rfl, h.at 10 rfl⟩
theorem Blk.a12 (h : Blk w b (c0 :: c1 :: c2 :: c3 :: c4 :: c5 :: c6 :: c7 :: c8 :: c9 :: c10 :: c11 :: l)) : w.cell? ⟨b, 0, none⟩ = some c0 ∧ w.cell? ⟨b, 1, none⟩ = some c1 ∧ w.cell? ⟨b, 2, none⟩ = some c2 ∧ w.cell? ⟨b, 3, none⟩ = some c3 ∧ w.cell? ⟨b, 4, none⟩ = some c4 ∧ w.cell? ⟨b, 5, none⟩ = some c5 ∧ w.cell? ⟨b, 6, none⟩ = some c6 ∧ w.cell? ⟨b, 7, none⟩ = some c7 ∧ w.cell? ⟨b, 8, none⟩ = some c8 ∧ w.cell? ⟨b, 9, none⟩ = some c9 ∧ w.cell? ⟨b, 10, none⟩ = some c10 ∧ w.cell? ⟨b, 11, none⟩ = some c11 := ⟨h.at 0 rfl, h.at 1 rfl, h.at 2 rfl, h.at 3 rfl, h.at 4 rfl, h.at 5 rfl, h.at 6 rfl, h.at 7 rfl, h.at 8 rfl, h.at 9 rfl, h.at 10 rfl, h.at 11 rfl⟩
theorem Blk.f2 {L : List Value} (h : Blk w b L) : w.frozen? ⟨b, 0, none⟩ = false ∧ w.frozen? ⟨b, 1, none⟩ = false := ⟨h.frozen 0, h.frozen 1⟩
theorem Blk.f3 {L : List Value} (h : Blk w b L) : w.frozen? ⟨b, 0, none⟩ = false ∧ w.frozen? ⟨b, 1, none⟩ = false ∧ w.frozen? ⟨b, 2, none⟩ = false := ⟨h.frozen 0, h.frozen 1, h.frozen 2⟩
theorem Blk.f4 {L : List Value} (h : Blk w b L) : w.frozen? ⟨b, 0, none⟩ = false ∧ w.frozen? ⟨b, 1, none⟩ = false ∧ w.frozen? ⟨b, 2, none⟩ = false ∧ w.frozen? ⟨b, 3, none⟩ = false := ⟨h.frozen 0, h.frozen 1, h.frozen 2, h.frozen 3⟩
theorem Blk.f5 {L : List Value} (h : Blk w b L) : w.frozen? ⟨b, 0, none⟩ = false ∧ w.frozen? ⟨b, 1, none⟩ = false ∧ w.frozen? ⟨b, 2, none⟩ = false ∧ w.frozen? ⟨b, 3, none⟩ = false ∧ w.frozen? ⟨b, 4, none⟩ = false := ⟨h.frozen 0, h.frozen 1, h.frozen 2, h.frozen 3, h.frozen 4⟩
theorem Blk.f6 {L : List Value} (h : Blk w b L) : w.frozen? ⟨b, 0, none⟩ = false ∧ w.frozen? ⟨b, 1, none⟩ = false ∧ w.frozen? ⟨b, 2, none⟩ = false ∧ w.frozen? ⟨b, 3, none⟩ = false ∧ w.frozen? ⟨b, 4, none⟩ = false ∧ w.frozen? ⟨b, 5, none⟩ = false := ⟨h.frozen 0, h.frozen 1, h.frozen 2, h.frozen 3, h.frozen 4, h.frozen 5⟩
theorem Blk.f7 {L : List Value} (h : Blk w b L) : w.frozen? ⟨b, 0, none⟩ = false ∧ w.frozen? ⟨b, 1, none⟩ = false ∧ w.frozen? ⟨b, 2, none⟩ = false ∧ w.frozen? ⟨b, 3, none⟩ = false ∧ w.frozen? ⟨b, 4, none⟩ = false ∧ w.frozen? ⟨b, 5, none⟩ = false ∧ w.frozen? ⟨b, 6, none⟩ = false := ⟨h.frozen 0, h.frozen 1, h.frozen 2, h.frozen 3, h.frozen 4, h.frozen 5, h.frozen 6⟩
theorem Blk.f8 {L : List Value} (h : Blk w b L) : w.frozen? ⟨b, 0, none⟩ = false ∧ w.frozen? ⟨b, 1, none⟩ = false ∧ w.frozen? ⟨b, 2, none⟩ = false ∧ w.frozen? ⟨b, 3, none⟩ = false ∧ w.frozen? ⟨b, 4, none⟩ = false ∧ w.frozen? ⟨b, 5, none⟩ = false ∧ w.frozen? ⟨b, 6, none⟩ = false ∧ w.frozen? ⟨b, 7, none⟩ = false := ⟨h.frozen 0, h.frozen 1, h.frozen 2, h.frozen 3, h.frozen 4, h.frozen 5, h.frozen 6, h.frozen 7⟩
theorem Blk.f9 {L : List Value} (h : Blk w b L) : w.frozen? ⟨b, 0, none⟩ = false ∧ w.frozen? ⟨b, 1, none⟩ = false ∧ w.frozen? ⟨b, 2, none⟩ = false ∧ w.frozen? ⟨b, 3, none⟩ = false ∧ w.frozen? ⟨b, 4, none⟩ = false ∧ w.frozen? ⟨b, 5, none⟩ = false ∧ w.frozen? ⟨b, 6, none⟩ = false ∧ w.frozen? ⟨b, 7, none⟩ = false ∧ w.frozen? ⟨b, 8, none⟩ = false := ⟨h.frozen 0, h.frozen 1, h.frozen 2, h.frozen 3, h.frozen 4, h.frozen 5, h.frozen 6, h.frozen 7, h.frozen 8⟩
theorem Blk.f10 {L : List Value} (h : Blk w b L) : w.frozen? ⟨b, 0, none⟩ = false ∧ w.frozen? ⟨b, 1, none⟩ = false ∧ w.frozen? ⟨b, 2, none⟩ = false ∧ w.frozen? ⟨b, 3, none⟩ = false ∧ w.frozen? ⟨b, 4, none⟩ = false ∧ w.frozen? ⟨b, 5, none⟩ = false ∧ w.frozen? ⟨b, 6, none⟩ = false ∧ w.frozen? ⟨b, 7, none⟩ = false ∧ w.frozen? ⟨b, 8, none⟩ = false ∧ w.frozen? ⟨b, 9, none⟩ = false := ⟨h.frozen 0, h.frozen 1, h.frozen 2, h.frozen 3, h.frozen 4, h.frozen 5, h.frozen 6, h.frozen 7, h.frozen 8, h.frozen 9⟩
theorem Blk.f11 {L : List Value} (h : Blk w b L) : w.frozen? ⟨b, 0, none⟩ = false ∧ w.frozen? ⟨b, 1, none⟩ = false ∧ w.frozen? ⟨b, 2, none⟩ = false ∧ w.frozen? ⟨b, 3, none⟩ = false ∧ w.frozen? ⟨b, 4, none⟩ = false ∧ w.frozen? ⟨b, 5, none⟩ = false ∧ w.frozen? ⟨b, 6, none⟩ = false ∧ w.frozen? ⟨b, 7, none⟩ = false ∧ w.frozen? ⟨b, 8, none⟩ = false ∧ w.frozen? ⟨b, 9, none⟩ = false ∧ w.frozen? ⟨b, 10, none⟩ = false := ⟨h.frozen 0, h.frozen 1, h.frozen 2, h.frozen 3, h.frozen 4, h.frozen 5, h.frozen 6, h.frozen 7, h.frozen 8, h.frozen 9, h.frozen 10⟩
end Go.Proofs.YtgnaifhmcllnlaaGreatDoor
namespace Go.Proofs.YtgnaifhmcllnlaaGreatDoor
open Tryz
section
variable {P : Program} {ops : Array Oper} {Q : Exit → Act → World → Prop} {md : Region.Mode} {S : World → Prop}
theorem avt (i d : Nat) {oi : Oper} {v : Value} {fuel : Nat} {listed : Array Bool} {a : Act} {w : World} (hi : ops[i]? = some oi) (hd : oi.dst = some d)
 (hs : Region.noSelect ops = true) (hf : Region.free md ops listed i = true) (hr : (Region.ready md ops listed).contains i = true)
 (hQ : ∀ c a w, Q (.panic c) (a.put oi.dst v) w → Q (.panic c) a w) (hy : YieldsIf P ops S oi v a) (hS : S w)
 (h : wpAnyH P md ops Q S fuel (listed.setIfInBounds i true) (a.put (some d) v) w) : wpAnyH P md ops Q S (fuel + 1) listed a w :=
 wpAnyH_take hi hs hf hr hQ hy hS (by rw [hd]; exact h)
theorem agu (i d : Nat) {oi : Oper} {fuel : Nat} {listed : Array Bool} {a : Act} {w : World} (hi : ops[i]? = some oi) (hd : oi.dst = some d)
 (hS : S w) (h : wpAnyH P md ops Q S fuel (listed.setIfInBounds i true) (a.put (some d) undef) w)
 (hs : Region.noSelect ops = true := by kernel_rfl) (hf : Region.free md ops listed i = true := by kernel_rfl) (hr : (Region.ready md ops listed).contains i = true := by kernel_rfl)
 (hw : Region.wanted oi (yielded ops a.tmps) = false := by kernel_rfl) (hQ : ∀ c a w, Q (.panic c) (a.put oi.dst undef) w → Q (.panic c) a w := by exact fun _ _ _ h => h) : wpAnyH P md ops Q S (fuel + 1) listed a w :=
 avt i d hi hd hs hf hr hQ (Or.inr ⟨hw, rfl⟩) hS h
end
theorem lsT {α : Type _} (l : List α) (i : Nat) (a : α) : l.toArray.setIfInBounds i a = (l.set i a).toArray := List.setIfInBounds_toArray l i a
theorem lsZ {α : Type _} (a b : α) (l : List α) : (a :: l).set 0 b = b :: l := rfl
theorem lsS {α : Type _} (a b : α) (l : List α) (n : Nat) : (a :: l).set (n + 1) b = a :: l.set n b := rfl
section
variable {P : Program} {ops : Array Oper} {Q : Exit → Act → World → Prop} {md : Region.Mode} {S : World → Prop} {k : Nat}
def aca (P : Program) (md : Region.Mode) (ops : Array Oper) (Q : Exit → Act → World → Prop) (S : World → Prop) (k : Nat) : Nat → Array Bool → Act → World → Prop
 | 0, listed, a, w => Region.ready md ops listed = [] ∧ Q .normal a w
 | fuel + 1, listed, a, w =>
  (Region.ready md ops listed = [] → Q .normal a w) ∧
  ∀ i ∈ Region.ready md ops listed, wpOp P ops Q i (fun a' w' => ((listed.setIfInBounds i true).getD k true = false → S w') ∧ aca P md ops Q S k fuel (listed.setIfInBounds i true) a' w') a w
theorem afy : ∀ (fuel : Nat) (listed : Array Bool) (a : Act) (w : World), aca P md ops Q S k fuel listed a w → wpAny P md ops Q fuel listed a w
 | 0, _, _, _, h => h
 | fuel + 1, _, _, _, h => ⟨h.1, fun i hi => wpOp_mono (fun a' w' h' => afy fuel _ a' w' h'.2) (h.2 i hi)⟩
def aof (md : Region.Mode) (ops : Array Oper) (i : Nat) : List Nat :=
 (List.range ops.size).foldl (fun s m => if ((ops[m]?).map (·.after.any fun e => Region.binds md e && s.contains e.on)).getD false then m :: s else s) [i]
def afz (md : Region.Mode) (ops : Array Oper) (listed : Array Bool) (i : Nat) (s : List Nat) : Bool :=
 s.all fun m => !listed.getD m true && (m == i || ((ops[m]?).map (·.after.any fun e => Region.binds md e && s.contains e.on)).getD false)
theorem aq0 {listed : Array Bool} {i j : Nat} {s : List Nat} (h : afz md ops listed i s = true) (hj : j ∈ Region.ready md ops listed) (hji : j ≠ i) : j ∉ s := by
 intro hs
 unfold afz at h
 rw [jt] at h
 have h1 := h j hs
 rw [jj, Bool.or_eq_true] at h1
 obtain ⟨-, oj, hoj, hall⟩ := mem_ready.1 hj
 rcases h1.2 with e | e
 ·exact hji (by simpa using e)
 ·rw [hoj] at e
  simp only [Option.map_some, Option.getD_some, Array.any_eq_true'] at e; obtain ⟨x, hx, e⟩ := e; rw [jj] at e; have h2 := hall x hx e.1; have h3 := h x.on (by simpa using e.2); rw [jj] at h3; have h4 := h3.1; rcases Nat.lt_or_ge x.on listed.size with q | q
  ·simp [q] at h2 h4; rw [h2] at h4; cases h4
  ·simp [Array.getElem?_eq_none q] at h2
theorem aq1 {listed : Array Bool} {i j : Nat} {s : List Nat} (h : afz md ops listed i s = true) (hj : j ∉ s) : afz md ops (listed.setIfInBounds j true) i s = true := by
 unfold afz at *
 rw [jt] at *
 intro m hm
 have := h m hm
 rwa [getD_set_ne true (fun e : j = m => hj (e ▸ hm))]
theorem ait {listed : Array Bool} {i k : Nat} (h : (listed.setIfInBounds i true).getD k true = false) : listed.getD k true = false := by
 by_cases e : i = k
 ·subst e
  rcases Nat.lt_or_ge i listed.size with q | q
  ·simp [q] at h
  ·simp [q] at h
 ·rwa [getD_set_ne true e] at h
theorem ahx {i : Nat} {oi : Oper} {v : Value} {T : World → Prop} (s : List Nat) (hik : i ≠ k) (hi : ops[i]? = some oi) (hsel : ∀ (j : Nat) (o : Oper) cs b, ops[j]? = some o → o.op ≠ .select cs b)
 (hQ : ∀ c a w, Q (.panic c) (a.put oi.dst v) w → Q (.panic c) a w) :
 ∀ (fuel : Nat) (listed : Array Bool) (a : Act) (w : World),
  (∀ j oj, ops[j]? = some oj → j ≠ i → listed.getD j true = false → (∀ e ∈ oj.after, Region.binds md e = true → e.on ≠ i) → oi.apart ops oj = true) →
  i ∈ Region.ready md ops listed → ((∀ w, T w) ∨ ((∀ w, S w → T w) ∧ k ∈ s ∧ afz md ops listed i s = true)) → YieldsIf P ops T oi v a → T w → (listed.getD k true = false → S w) →
  aca P md ops Q S k fuel (listed.setIfInBounds i true) (a.put oi.dst v) w → aca P md ops Q S k (fuel + 1) listed a w := by
 intro fuel
 induction fuel with
 | zero =>
  intro listed a w _ hr _ hy hT hS H; refine ⟨fun h => (by rw [h] at hr; cases hr), fun j hj => ?_⟩; by_cases hji : j = i
  ·subst hji; exact hy.wpOp hi hT ⟨fun h => hS (ait h), H⟩
  ·have := ready_mono hj hji
   rw [H.1] at this; cases this
 | succ fuel ih =>
  intro listed a w hfree hr hc hy hT hS H; refine ⟨fun h => (by rw [h] at hr; cases hr), fun j hj => ?_⟩; by_cases hji : j = i
  ·subst hji; exact hy.wpOp hi hT ⟨fun h => hS (ait h), H⟩
  ·have h1 := H.2 j (ready_mono hj hji)
   obtain ⟨hjun, oj, hoj, hall⟩ := mem_ready.1 hj
   have hnot : ∀ e ∈ oj.after, Region.binds md e = true → e.on ≠ i := fun e he hb heq => by
    have h1 := hall e he hb; have h0 := (mem_ready.1 hr).1; rw [heq] at h1; rcases Nat.lt_or_ge i listed.size with h' | h'
    ·simp [h'] at h0 h1; rw [h0] at h1; cases h1
    ·simp [Array.getElem?_eq_none h'] at h1
   have h2 := wpOp_putIf hoj (hfree j oj hoj hji hjun hnot) (fun cs b => hsel i oi cs b hi) (fun cs b => hsel j oj cs b hoj) hQ hy h1
   have hfree' : ∀ k ok, ops[k]? = some ok → k ≠ i → (listed.setIfInBounds j true).getD k true = false →
    (∀ e ∈ ok.after, Region.binds md e = true → e.on ≠ i) → oi.apart ops ok = true := fun k ok hk hki hun hno => by
    refine hfree k ok hk hki ?_ hno; by_cases hjk : j = k
    ·subst hjk; exact hjun
    ·rw [getD_set_ne true hjk] at hun; exact hun
   have hU : ∀ w', (((listed.setIfInBounds i true).setIfInBounds j true).getD k true = false → S w') → (listed.setIfInBounds j true).getD k true = false → S w' := fun w' h h' => h (by
    rw [Array.setIfInBounds_comm _ _ (fun e => hji e.symm), getD_set_ne true hik]; exact h')
   rcases hc with hc | ⟨hc, hks, hch⟩
   ·refine wpOp_mono (fun a' w' h3 => ⟨hU w' h3.2.1, ih (listed.setIfInBounds j true) a' w' hfree' (ready_mono hr (Ne.symm hji)) (.inl hc) h3.1 (hc _) (hU w' h3.2.1) ?_⟩) h2
    rw [Array.setIfInBounds_comm _ _ hji]; exact h3.2.2
   ·have hjs := aq0 hch hj hji
    have hch' := aq1 hch hjs
    have hkf : (listed.setIfInBounds j true).getD k true = false := by
     unfold afz at hch'; rw [jt] at hch'; have := hch' k hks; rw [jj] at this
     simpa using this.1
    refine wpOp_mono (fun a' w' h3 => ⟨hU w' h3.2.1, ih (listed.setIfInBounds j true) a' w' hfree' (ready_mono hr (Ne.symm hji)) (.inr ⟨hc, hks, hch'⟩) h3.1 (hc _ (hU w' h3.2.1 hkf)) (hU w' h3.2.1) ?_⟩) h2; rw [Array.setIfInBounds_comm _ _ hji]; exact h3.2.2
variable {fuel : Nat} {listed : Array Bool} {a : Act} {w : World}
theorem baq (i : Nat) {d : Nat} {oi : Oper} {v : Value} (hi : ops[i]? = some oi) (hd : oi.dst = some d)
 (hy : ∀ w, S w → (execOp a.eval oi).run P w = .ok (.value v) w) (hS : S w) (h : aca P md ops Q S k fuel (listed.setIfInBounds i true) (a.put (some d) v) w)
 (hs : Region.noSelect ops = true := by kernel_rfl) (hf : Region.free md ops listed i = true := by kernel_rfl) (hr : (Region.ready md ops listed).contains i = true := by kernel_rfl)
 (hk : ((aof md ops i).contains k && !(i == k) && afz md ops listed i (aof md ops i)) = true := by kernel_rfl)
 (hw : Region.wanted oi (yielded ops a.tmps) = true := by kernel_rfl) (hQ : ∀ c a w, Q (.panic c) (a.put oi.dst v) w → Q (.panic c) a w := by exact fun _ _ _ h => h) : aca P md ops Q S k (fuel + 1) listed a w := by
 rw [jj, jj] at hk
 exact ahx (T := S) (aof md ops i) (by simpa using hk.1.2) hi (Region.noSelect_spec hs) hQ fuel listed a w (Region.free_spec hi hf) (by simpa using hr) (.inr ⟨fun _ h => h, by simpa using hk.1.1, hk.2⟩) (.inl ⟨hw, hy⟩) hS (fun _ => hS) (by rw [hd]; exact h)
theorem bcl (i : Nat) {d : Nat} {oi : Oper} {v : Value} (hi : ops[i]? = some oi) (hd : oi.dst = some d)
 (hy : ∀ w, (execOp a.eval oi).run P w = .ok (.value v) w) (hS : S w) (h : aca P md ops Q S k fuel (listed.setIfInBounds i true) (a.put (some d) v) w)
 (hs : Region.noSelect ops = true := by kernel_rfl) (hf : Region.free md ops listed i = true := by kernel_rfl) (hr : (Region.ready md ops listed).contains i = true := by kernel_rfl)
 (hk : (i == k) = false := by rfl)
 (hw : Region.wanted oi (yielded ops a.tmps) = true := by kernel_rfl) (hQ : ∀ c a w, Q (.panic c) (a.put oi.dst v) w → Q (.panic c) a w := by exact fun _ _ _ h => h) : aca P md ops Q S k (fuel + 1) listed a w :=
 ahx (T := fun _ => True) [] (by simpa using hk) hi (Region.noSelect_spec hs) hQ fuel listed a w (Region.free_spec hi hf) (by simpa using hr) (.inl (fun _ => trivial)) (.inl ⟨hw, fun w _ => hy w⟩) trivial (fun _ => hS) (by rw [hd]; exact h)
theorem aiu (i : Nat) {o : Oper} (ho : ops[i]? = some o)
 (h : ∀ K' : Act → World → Prop, Shut (∀ a w, S w → (S w → aca P md ops Q S k fuel (listed.setIfInBounds i true) a w) → K' a w) → if Region.wanted o (yielded ops a.tmps) = true then Oper.wp P o a w K' Q else K' (a.put o.dst undef) w)
 (hr : Region.ready md ops listed = [i] := by kernel_rfl) : aca P md ops Q S k (fuel + 1) listed a w :=
 ⟨fun h0 => jp (hr.symm.trans h0) (by simp), fun j hj => by
  rw [hr] at hj; obtain rfl := jc.1 hj
  exact wpOp_step ho (fun K' hK => h K' (fun a w hS hW => hK a w ⟨fun _ => hS, hW hS⟩))⟩
theorem aq2 (i : Nat) {o : Oper} (ho : ops[i]? = some o)
 (h : ∀ K' : Act → World → Prop, Shut (∀ a w, aca P md ops Q S k fuel (listed.setIfInBounds i true) a w → K' a w) → if Region.wanted o (yielded ops a.tmps) = true then Oper.wp P o a w K' Q else K' (a.put o.dst undef) w)
 (hr : Region.ready md ops listed = [i] := by kernel_rfl) (hk : (listed.setIfInBounds i true).getD k true = true := by kernel_rfl) : aca P md ops Q S k (fuel + 1) listed a w :=
 ⟨fun h0 => jp (hr.symm.trans h0) (by simp), fun j hj => by
  rw [hr] at hj; obtain rfl := jc.1 hj
  exact wpOp_step ho (fun K' hK => h K' (fun a w hW => hK a w ⟨fun h => jp (hk.symm.trans h) (by simp), hW⟩))⟩
theorem bd1 (i j : Nat) {o o' : Oper} (ho : ops[i]? = some o) (ho' : ops[j]? = some o')
 (h : ∀ K' : Act → World → Prop, Shut (∀ a w, S w → (S w → aca P md ops Q S k fuel (listed.setIfInBounds i true) a w) → K' a w) → if Region.wanted o (yielded ops a.tmps) = true then Oper.wp P o a w K' Q else K' (a.put o.dst undef) w)
 (h' : ∀ K' : Act → World → Prop, Shut (∀ a w, S w → (S w → aca P md ops Q S k fuel (listed.setIfInBounds j true) a w) → K' a w) → if Region.wanted o' (yielded ops a.tmps) = true then Oper.wp P o' a w K' Q else K' (a.put o'.dst undef) w)
 (hr : Region.ready md ops listed = [i, j] := by kernel_rfl) : aca P md ops Q S k (fuel + 1) listed a w :=
 ⟨fun h0 => jp (hr.symm.trans h0) (by simp), fun x hx => by
  rw [hr] at hx; rcases List.mem_cons.1 hx with rfl | hx
  ·exact wpOp_step ho (fun K' hK => h K' (fun a w hS hW => hK a w ⟨fun _ => hS, hW hS⟩))
  ·obtain rfl := jc.1 hx
   exact wpOp_step ho' (fun K' hK => h' K' (fun a w hS hW => hK a w ⟨fun _ => hS, hW hS⟩))⟩
theorem asc (h : Q .normal a w) (hr : Region.ready md ops listed = [] := by kernel_rfl) : aca P md ops Q S k fuel listed a w := by
 cases fuel with
 | zero => exact ⟨hr, h⟩
 | succ _ => exact ⟨fun _ => h, by rw [hr]; simp⟩
theorem aai (i : Nat) {o : Oper} (ho : ops[i]? = some o)
 (h : ∀ K' : Act → World → Prop, Shut (∀ a w, S w → (S w → wpAnyH P md ops Q S fuel (listed.setIfInBounds i true) a w) → K' a w) → if Region.wanted o (yielded ops a.tmps) = true then Oper.wp P o a w K' Q else K' (a.put o.dst undef) w)
 (hr : Region.ready md ops listed = [i] := by kernel_rfl) : wpAnyH P md ops Q S (fuel + 1) listed a w := wpAnyH_ready hr (by simp) (AllReadyH.cons ho h AllReadyH.nil)
theorem ah9 (h : Q .normal a w) (hr : Region.ready md ops listed = [] := by kernel_rfl) : wpAnyH P md ops Q S fuel listed a w := wpAnyH_done hr h _
theorem aal (S : World → Prop) {id : Nat} {a : Act} {w : World} (hS : S w.drew) (h : S w.drew → wpAnyH P .any ops Q S ops.size (Array.replicate ops.size false) a w.drew) (hm : P.follows .mixedOrders = true := by kernel_rfl) : (Code.region id ops true).wp P Q a w := wp_region_held_drew hm hS h
theorem acb (S : World → Prop) (k : Nat) {id : Nat} {a : Act} {w : World} (hS : S w.drew)
 (h : S w.drew → aca P .any ops Q S k ops.size (Array.replicate ops.size false) a w.drew) (hm : P.follows .mixedOrders = true := by kernel_rfl) : (Code.region id ops true).wp P Q a w :=
 wp_region_any hm (afy _ _ _ _ (h hS))
end
section
variable {P : Program} {ops : Array Oper} {Q : Exit → Act → World → Prop} {md : Region.Mode} {S : World → Prop} {fuel : Nat} {listed : Array Bool} {a : Act} {w : World}
theorem tkH (i : Nat) {d : Nat} {oi : Oper} {v : Value} {A : Act} {L : Array Bool} (hS : S w) (h : wpAnyH P md ops Q S fuel L A w) (hi : ops[i]? = some oi := by rfl) (hd : oi.dst = some d := by rfl)
 (hy : ∀ w, S w → (execOp a.eval oi).run P w = .ok (.value v) w := by intro v hSw; clear hSw; go_simp; (try with_reducible rfl))
 (hA : a.put (some d) v = A := by (try simp only [Act.put, lsT, lsZ, lsS]); rfl) (hL : listed.setIfInBounds i true = L := by (try simp only [lsT, lsZ, lsS]); rfl)
 (hs : Region.noSelect ops = true := by kernel_rfl) (hf : Region.free md ops listed i = true := by kernel_rfl) (hr : (Region.ready md ops listed).contains i = true := by kernel_rfl)
 (hw : Region.wanted oi (yielded ops a.tmps) = true := by kernel_rfl) (hQ : ∀ c a w, Q (.panic c) (a.put oi.dst v) w → Q (.panic c) a w := by exact fun _ _ _ h => h) : wpAnyH P md ops Q S (fuel + 1) listed a w :=
 avt i d hi hd hs hf hr hQ (Or.inl ⟨hw, hy⟩) hS (by rw [hA, hL]; exact h)
theorem tkF (i : Nat) {d : Nat} {oi : Oper} {v : Value} {A : Act} {L : Array Bool} {F : World → Prop} (hS : S w) (h : wpAnyH P md ops Q S fuel L A w) (hF : ∀ v, S v → F v) (hi : ops[i]? = some oi := by rfl) (hd : oi.dst = some d := by rfl)
 (hy : ∀ w, S w → F w → (execOp a.eval oi).run P w = .ok (.value v) w := by intro v hSw hFv; clear hSw; (try dsimp only at hFv); go_simp; (try with_reducible rfl))
 (hA : a.put (some d) v = A := by (try simp only [Act.put, lsT, lsZ, lsS]); rfl) (hL : listed.setIfInBounds i true = L := by (try simp only [lsT, lsZ, lsS]); rfl)
 (hs : Region.noSelect ops = true := by kernel_rfl) (hf : Region.free md ops listed i = true := by kernel_rfl) (hr : (Region.ready md ops listed).contains i = true := by kernel_rfl)
 (hw : Region.wanted oi (yielded ops a.tmps) = true := by kernel_rfl) (hQ : ∀ c a w, Q (.panic c) (a.put oi.dst v) w → Q (.panic c) a w := by exact fun _ _ _ h => h) : wpAnyH P md ops Q S (fuel + 1) listed a w :=
 avt i d hi hd hs hf hr hQ (Or.inl ⟨hw, fun w hS => hy w hS (hF w hS)⟩) hS (by rw [hA, hL]; exact h)
variable {k : Nat}
theorem tkU (i : Nat) {d : Nat} {oi : Oper} {v : Value} {A : Act} {L : Array Bool} (hS : S w) (h : aca P md ops Q S k fuel L A w) (hi : ops[i]? = some oi := by rfl) (hd : oi.dst = some d := by rfl)
 (hy : ∀ w, S w → (execOp a.eval oi).run P w = .ok (.value v) w := by intro v hSw; clear hSw; go_simp; (try with_reducible rfl))
 (hA : a.put (some d) v = A := by (try simp only [Act.put, lsT, lsZ, lsS]); rfl) (hL : listed.setIfInBounds i true = L := by (try simp only [lsT, lsZ, lsS]); rfl)
 (hs : Region.noSelect ops = true := by kernel_rfl) (hf : Region.free md ops listed i = true := by kernel_rfl) (hr : (Region.ready md ops listed).contains i = true := by kernel_rfl) (hk : ((aof md ops i).contains k && !(i == k) && afz md ops listed i (aof md ops i)) = true := by kernel_rfl)
 (hw : Region.wanted oi (yielded ops a.tmps) = true := by kernel_rfl) (hQ : ∀ c a w, Q (.panic c) (a.put oi.dst v) w → Q (.panic c) a w := by exact fun _ _ _ h => h) : aca P md ops Q S k (fuel + 1) listed a w :=
 baq i hi hd hy hS (by rw [hA, hL]; exact h) hs hf hr hk hw hQ
theorem tkG (i : Nat) {d : Nat} {oi : Oper} {v : Value} {A : Act} {L : Array Bool} {F : World → Prop} (hS : S w) (h : aca P md ops Q S k fuel L A w) (hF : ∀ v, S v → F v) (hi : ops[i]? = some oi := by rfl) (hd : oi.dst = some d := by rfl)
 (hy : ∀ w, S w → F w → (execOp a.eval oi).run P w = .ok (.value v) w := by intro v hSw hFv; clear hSw; (try dsimp only at hFv); go_simp; (try with_reducible rfl))
 (hA : a.put (some d) v = A := by (try simp only [Act.put, lsT, lsZ, lsS]); rfl) (hL : listed.setIfInBounds i true = L := by (try simp only [lsT, lsZ, lsS]); rfl)
 (hs : Region.noSelect ops = true := by kernel_rfl) (hf : Region.free md ops listed i = true := by kernel_rfl) (hr : (Region.ready md ops listed).contains i = true := by kernel_rfl) (hk : ((aof md ops i).contains k && !(i == k) && afz md ops listed i (aof md ops i)) = true := by kernel_rfl)
 (hw : Region.wanted oi (yielded ops a.tmps) = true := by kernel_rfl) (hQ : ∀ c a w, Q (.panic c) (a.put oi.dst v) w → Q (.panic c) a w := by exact fun _ _ _ h => h) : aca P md ops Q S k (fuel + 1) listed a w :=
 baq i hi hd (fun w hS => hy w hS (hF w hS)) hS (by rw [hA, hL]; exact h) hs hf hr hk hw hQ
theorem tkP (i : Nat) {d : Nat} {oi : Oper} {v : Value} {A : Act} {L : Array Bool} (hS : S w) (h : aca P md ops Q S k fuel L A w) (hi : ops[i]? = some oi := by rfl) (hd : oi.dst = some d := by rfl)
 (hy : ∀ w, (execOp a.eval oi).run P w = .ok (.value v) w := by intro v; go_simp; (try with_reducible rfl))
 (hA : a.put (some d) v = A := by (try simp only [Act.put, lsT, lsZ, lsS]); rfl) (hL : listed.setIfInBounds i true = L := by (try simp only [lsT, lsZ, lsS]); rfl)
 (hs : Region.noSelect ops = true := by kernel_rfl) (hf : Region.free md ops listed i = true := by kernel_rfl) (hr : (Region.ready md ops listed).contains i = true := by kernel_rfl) (hk : (i == k) = false := by rfl)
 (hw : Region.wanted oi (yielded ops a.tmps) = true := by kernel_rfl) (hQ : ∀ c a w, Q (.panic c) (a.put oi.dst v) w → Q (.panic c) a w := by exact fun _ _ _ h => h) : aca P md ops Q S k (fuel + 1) listed a w :=
 bcl i hi hd hy hS (by rw [hA, hL]; exact h) hs hf hr hk hw hQ
end
inductive V where
 | mk (k n : Int) (s : ByteArray) (ks : List ByteArray) (l : List V)
def V.kind : V → Int | .mk k _ _ _ _ => k
def V.num : V → Int | .mk _ n _ _ _ => n
def V.str : V → ByteArray | .mk _ _ s _ _ => s
def V.keys : V → List ByteArray | .mk _ _ _ ks _ => ks
def V.list : V → List V | .mk _ _ _ _ l => l
theorem V.ind {P : V → Prop} (h : ∀ k n s ks l, (∀ t ∈ l, P t) → P (.mk k n s ks l)) : ∀ t, P t
 | .mk k n s ks l => h k n s ks l (fun t _ => V.ind h t)
mutual
def V.cnt : V → Int → Int
 | .mk _ _ _ _ l, n => V.cntL l (n - 1)
def V.cntL : List V → Int → Int
 | [], n => n
 | x :: xs, n => if n < 0 then n else V.cntL xs (V.cnt x n)
end
def V.deep : Nat → V → Bool
 | 0, _ => true
 | d + 1, .mk _ _ _ _ l => l.any (V.deep d)
def ctB (r : List UInt8) (k lo hi : Nat) : Bool := match r[k]? with | some d => decide (lo ≤ d.toNat) && decide (d.toNat ≤ hi) | none => false
def u8n (l : List UInt8) : Nat :=
 match l with
 | [] => 0
 | b0 :: r =>
  if b0.toNat < 128 then 1
  else if 194 ≤ b0.toNat ∧ b0.toNat ≤ 223 then (if ctB r 0 128 191 then 2 else 0)
  else if 224 ≤ b0.toNat ∧ b0.toNat ≤ 239 then (if ctB r 0 (if b0.toNat = 224 then 160 else 128) (if b0.toNat = 237 then 159 else 191) && ctB r 1 128 191 then 3 else 0)
  else if 240 ≤ b0.toNat ∧ b0.toNat ≤ 244 then (if ctB r 0 (if b0.toNat = 240 then 144 else 128) (if b0.toNat = 244 then 143 else 191) && ctB r 1 128 191 && ctB r 2 128 191 then 4 else 0)
  else 0
def u8F : Nat → List UInt8 → Bool
 | _, [] => true
 | 0, _ :: _ => false
 | f + 1, b :: r => if u8n (b :: r) = 0 then false else u8F f ((b :: r).drop (u8n (b :: r)))
def u8 (l : List UInt8) : Bool := u8F l.length l
def u8s (s : ByteArray) : Bool := u8 s.data.toList
theorem asd {b : UInt8} {r : List UInt8} (h : u8n (b :: r) ≠ 0) : 1 ≤ u8n (b :: r) := by omega
theorem apu : ∀ (f g : Nat) (l : List UInt8), l.length ≤ f → l.length ≤ g → u8F f l = u8F g l
 | f, g, [], _, _ => by cases f <;> cases g <;> rfl
 | 0, _, b :: r, h, _ => by simp at h
 | f + 1, 0, b :: r, _, h => by simp at h
 | f + 1, g + 1, b :: r, h, k => by
  unfold u8F; split
  ·rfl
  ·rename_i hn
   refine apu f g _ ?_ ?_ <;> · have := asd hn; simp only [List.length_drop, jn] at *; omega
theorem bcm {b : UInt8} {r : List UInt8} (h : u8n (b :: r) = 0) : u8 (b :: r) = false := by
 unfold u8; rw [jn]; unfold u8F; rw [qw h]
theorem bar {b : UInt8} {r : List UInt8} (h : u8n (b :: r) ≠ 0) : u8 (b :: r) = u8 ((b :: r).drop (u8n (b :: r))) := by
 unfold u8; rw [jn]; conv => lhs; unfold u8F
 rw [qk h]
 exact apu _ _ _ (by have := asd h; simp only [List.length_drop, jn]; omega) (qj _)
def akp (s : ByteArray) : Bool := decide (1 ≤ s.size) && decide (s.size ≤ 255) && u8s s
def ae1 : List ByteArray → Bool
 | [] => true
 | k :: ks => akp k && !(ks.any (fun x => x.toList == k.toList)) && ae1 ks
def aaw (k n : Int) (s : ByteArray) (ks : List ByteArray) (len : Nat) : Bool :=
 (k == 168 || ks.isEmpty) && (k == 168 || k == 169 || len == 0) &&
 (if k = 240 then n == 0 && s.size == 0
  else if k = 8 then decide (n ≤ 1) && s.size == 0
  else if k = 2 then decide (n ≤ 255) && s.size == 0
  else if k = 49 ∨ k = 50 then s.size == 0
  else if k = 149 then n == 0 && decide (s.size ≤ 4096) && u8s s
  else if k = 160 then n == 0 && decide (s.size ≤ 4096)
  else if k = 168 then ks.length == len && ae1 ks && n == 0 && s.size == 0
  else if k = 169 then n == 0 && s.size == 0
  else false)
mutual
def V.may : V → Bool
 | .mk k n s ks l => aaw k n s ks l.length && V.mayL l
def V.mayL : List V → Bool
 | [] => true
 | x :: xs => V.may x && V.mayL xs
end
def V.chk (v : V) : Int := if v.deep 6 then 51 else if v.cnt 200 < 0 then 3 else if v.may then 0 else 50
def be : Nat → Nat → List UInt8
 | 0, _ => []
 | w + 1, n => be w (n / 256) ++ [UInt8.ofNat (n % 256)]
def aoc (l : List UInt8) : Nat := l.foldl (fun n c => 256 * n + c.toNat) 0
theorem aao : ∀ (w n : Nat), (be w n).length = w
 | 0, _ => rfl
 | w + 1, n => by unfold be; rw [jz, aao w]; rfl
theorem agv (l : List UInt8) (c : UInt8) : aoc (l ++ [c]) = 256 * aoc l + c.toNat := by unfold aoc; rw [List.foldl_append]; rfl
theorem ase : ∀ (w n : Nat), n < 256 ^ w → aoc (be w n) = n
 | 0, n, h => by have : n = 0 := by simpa using h
                 subst this; rfl
 | w + 1, n, h => by
  unfold be; have h2 : n / 256 < 256 ^ w := by rw [Nat.pow_succ] at h; exact Nat.div_lt_of_lt_mul (by omega)
  rw [agv, ase w _ h2, UInt8.toNat_ofNat']; omega
theorem asf : ∀ (l : List UInt8), aoc l < 256 ^ l.length := by
 intro l
 induction h : l.length generalizing l with
 | zero => have : l = [] := List.length_eq_zero_iff.1 h
           subst this; decide
 | succ n ih =>
  obtain ⟨q, c, rfl⟩ : ∃ q c, l = q ++ [c] := ⟨l.dropLast, l.getLast (fun e => by rw [e] at h; simp at h), (List.dropLast_concat_getLast _).symm⟩
  have hq : q.length = n := by simpa using h
  have := ih q hq; rw [agv, Nat.pow_succ]; have hc : c.toNat < 256 := c.toNat_lt; omega
theorem asg : ∀ (w : Nat) (l : List UInt8), l.length = w → be w (aoc l) = l
 | 0, l, h => by have : l = [] := List.length_eq_zero_iff.1 h
                 subst this; rfl
 | w + 1, l, h => by
  obtain ⟨q, c, rfl⟩ : ∃ q c, l = q ++ [c] := ⟨l.dropLast, l.getLast (fun e => by rw [e] at h; simp at h), (List.dropLast_concat_getLast _).symm⟩
  have hq : q.length = w := by simpa using h
  have hc : c.toNat < 256 := c.toNat_lt; unfold be; rw [agv, show (256 * aoc q + c.toNat) / 256 = aoc q by omega, show (256 * aoc q + c.toNat) % 256 = c.toNat by omega, asg w q hq]; simp
mutual
def V.bytes : V → List UInt8
 | .mk k n s ks l => UInt8.ofNat k.toNat ::
  (if k = 8 ∨ k = 2 then be 1 n.toNat
   else if k = 49 ∨ k = 50 then be 8 n.toNat
   else if k = 149 then be 2 s.size ++ s.data.toList
   else if k = 160 then be 4 s.size ++ s.data.toList
   else if k = 240 then []
   else be 4 (4 + (V.bytesL (k == 168) ks l).length) ++ (be 4 l.length ++ V.bytesL (k == 168) ks l))
def V.bytesL (m : Bool) : List ByteArray → List V → List UInt8
 | _, [] => []
 | ks, x :: xs => (if m then be 1 (ks.headD ByteArray.empty).size ++ (ks.headD ByteArray.empty).data.toList else []) ++ (V.bytes x ++ V.bytesL m ks.tail xs)
end
def gN (w : Nat) (b : List UInt8) : Option (Nat × List UInt8) := if w ≤ b.length then some (aoc (b.take w), b.drop w) else none
def gT (w most : Nat) (b : List UInt8) : Option (ByteArray × List UInt8) :=
 (gN w b).bind fun (n, r) => if n ≤ most ∧ n ≤ r.length then some (⟨(r.take n).toArray⟩, r.drop n) else none
def abk (f : Int → List UInt8 → Option (V × Int × List UInt8)) (m : Bool) : Nat → Int → List UInt8 → Option (List ByteArray × List V × Int × List UInt8)
 | 0, left, b => some ([], [], left, b)
 | n + 1, left, b =>
  (if m then gT 1 255 b else some (ByteArray.empty, b)).bind fun (key, b1) =>
  (f left b1).bind fun (x, left1, b2) =>
  (abk f m n left1 b2).bind fun (ks, l, left2, b3) => some (if m then key :: ks else ks, x :: l, left2, b3)
def rdP : Nat → Int → List UInt8 → Option (V × Int × List UInt8)
 | 0, _, _ => none
 | d + 1, left, b =>
  (gN 1 b).bind fun (k, b1) =>
  if left - 1 < 0 then none else
  if k = 240 then some (.mk k 0 ByteArray.empty [] [], left - 1, b1)
  else if k = 8 ∨ k = 2 then (gN 1 b1).bind fun (n, b2) => some (.mk k n ByteArray.empty [] [], left - 1, b2)
  else if k = 49 ∨ k = 50 then (gN 8 b1).bind fun (n, b2) => some (.mk k n ByteArray.empty [] [], left - 1, b2)
  else if k = 149 then (gT 2 4096 b1).bind fun (s, b2) => some (.mk k 0 s [] [], left - 1, b2)
  else if k = 160 then (gT 4 4096 b1).bind fun (s, b2) => some (.mk k 0 s [] [], left - 1, b2)
  else if k = 168 ∨ k = 169 then
   (gN 4 b1).bind fun (size, b2) => (gN 4 b2).bind fun (n, b3) =>
   if size ≤ b2.length ∧ n < 200 then
    (abk (rdP d) (k == 168) n (left - 1) b3).bind fun (ks, l, left2, b4) => if b2.length - b4.length = size then some (.mk k 0 ByteArray.empty ks l, left2, b4) else none
   else none
  else none
def rdD : Nat → Int → List UInt8 → Option (V × Int × List UInt8)
 | 0, _, _ => none
 | d + 1, left, b =>
  (gN 1 b).bind fun (k, b1) =>
  if left - 1 < 0 then none else
  if k = 8 ∨ k = 2 then (gN 1 b1).bind fun (n, b2) => some (.mk k n ByteArray.empty [] [], left - 1, b2)
  else if k = 49 ∨ k = 50 then (gN 8 b1).bind fun (n, b2) => some (.mk k n ByteArray.empty [] [], left - 1, b2)
  else if k = 149 then (gT 2 4096 b1).bind fun (s, b2) => some (.mk k 0 s [] [], left - 1, b2)
  else if k = 160 then (gT 4 4096 b1).bind fun (s, b2) => some (.mk k 0 s [] [], left - 1, b2)
  else if k = 168 ∨ k = 169 then
   (gN 4 b1).bind fun (_, b2) => (gN 4 b2).bind fun (n, b3) =>
   (abk (rdD d) (k == 168) (min n 200) (left - 1) b3).bind fun (ks, l, left2, b4) => some (.mk k 0 ByteArray.empty ks l, left2, b4)
  else some (.mk k 0 ByteArray.empty [] [], left - 1, b1)
def ako (b : List UInt8) : Option (V × Nat) :=
 (rdP 6 200 b).bind fun (v, _, r) => if v.chk = 0 then some (v, b.length - r.length) else none
def getD (b : List UInt8) : Option (V × Nat) :=
 (rdD 6 200 b).bind fun (v, _, _) => if v.chk = 0 ∧ v.bytes <+: b then some (v, v.bytes.length) else none
theorem akq (w n : Nat) (h : n < 256 ^ w) (r : List UInt8) : gN w (be w n ++ r) = some (n, r) := by
 unfold gN
 rw [qw (by rw [jz, aao]; omega), List.take_left' (aao w n), List.drop_left' (aao w n), ase w n h]
theorem bas (s : ByteArray) : (⟨s.data.toList.toArray⟩ : ByteArray) = s := by rfl
theorem acj (s : ByteArray) : s.data.toList.length = s.size := rfl
theorem apv (w most : Nat) (s : ByteArray) (hw : s.size < 256 ^ w) (hm : s.size ≤ most) (r : List UInt8) : gT w most (be w s.size ++ (s.data.toList ++ r)) = some (s, r) := by
 unfold gT
 rw [akq w _ hw, Option.bind_some]
 show (if s.size ≤ most ∧ s.size ≤ (s.data.toList ++ r).length then _ else none) = _
 rw [qw ⟨hm, by rw [jz, acj]; omega⟩, List.take_left' (acj s), List.drop_left' (acj s), bas]
theorem ahy {w n : Nat} {b r : List UInt8} (h : gN w b = some (n, r)) : b = be w n ++ r ∧ n < 256 ^ w := by
 unfold gN at h
 split at h
 ·rename_i hl
  simp only [jy, jm] at h; obtain ⟨rfl, rfl⟩ := h; have ht : (b.take w).length = w := by rw [List.length_take]; omega
  refine ⟨by rw [asg w _ ht, List.take_append_drop], ?_⟩; have := asf (b.take w); rwa [ht] at this
 ·simp at h
theorem apw {w most : Nat} {b r : List UInt8} {s : ByteArray} (h : gT w most b = some (s, r)) : b = be w s.size ++ (s.data.toList ++ r) ∧ s.size ≤ most ∧ s.size < 256 ^ w := by
 unfold gT at h
 rcases hg : gN w b with _ | ⟨n, b1⟩
 ·rw [hg] at h; simp at h
 ·rw [hg, Option.bind_some] at h
  have hb := ahy hg; dsimp only at h; split at h
  ·rename_i hc
   simp only [jy, jm] at h; obtain ⟨rfl, rfl⟩ := h; have hs : (⟨(b1.take n).toArray⟩ : ByteArray).size = n := by simp [ByteArray.size]; omega
   refine ⟨?_, by rw [hs]; exact hc.1, by rw [hs]; exact hb.2⟩; rw [hs, List.take_append_drop]; exact hb.1
  ·simp at h
theorem ak2 : ∀ (v : V) (n : Int), v.cnt n < n := by
 intro v
 induction v using V.ind with
 | h k n s ks l ih =>
  intro m; unfold V.cnt
  have hL : ∀ (l : List V), (∀ t ∈ l, ∀ n : Int, t.cnt n < n) → ∀ m : Int, V.cntL l m ≤ m := by
   intro l
   induction l with
   | nil => intro _ m; unfold V.cntL; omega
   | cons x xs ihx =>
    intro h m; unfold V.cntL; split
    ·omega
    ·have h1 := h x (List.mem_cons_self ..) m
     have h2 := ihx (fun t ht => h t (List.mem_cons_of_mem _ ht)) (x.cnt m); omega
  have := hL l ih (m - 1); omega
theorem af4 : ∀ (l : List V) (m : Int), V.cntL l m ≤ m
 | [], m => by unfold V.cntL; omega
 | x :: xs, m => by
  unfold V.cntL; split
  ·omega
  ·have h1 := ak2 x m
   have h2 := af4 xs (x.cnt m); omega
theorem apx (l : List V) {m : Int} (h : m < 0) : V.cntL l m = m := by cases l <;> unfold V.cntL <;> simp [h]
theorem ax5 {k n : Int} {s : ByteArray} {ks : List ByteArray} {l : List V} (h : (V.mk k n s ks l).may = true) : aaw k n s ks l.length = true ∧ V.mayL l = true := by
 unfold V.may at h; simpa using h
theorem agw {l : List V} (h : V.mayL l = true) : ∀ t ∈ l, t.may = true := by
 induction l with
 | nil => intro t ht; simp at ht
 | cons x xs ih =>
  unfold V.mayL at h; simp only [jj] at h; intro t ht; rcases List.mem_cons.1 ht with rfl | ht
  ·exact h.1
  ·exact ih h.2 t ht
theorem ahd {ks : List ByteArray} (h : ae1 ks = true) : ∀ k ∈ ks, 1 ≤ k.size ∧ k.size ≤ 255 := by
 induction ks with
 | nil => intro k hk; simp at hk
 | cons x xs ih =>
  unfold ae1 at h; simp only [jj] at h; intro k hk; rcases List.mem_cons.1 hk with rfl | hk
  ·have := h.1.1; unfold akp at this; simp only [jj, qm] at this; exact this.1
  ·exact ih h.2 k hk
theorem adg {k n : Int} {s : ByteArray} {ks : List ByteArray} {len : Nat} (h : aaw k n s ks len = true) :
 (k = 240 ∧ n = 0 ∧ s.size = 0 ∧ ks = [] ∧ len = 0) ∨ (k = 8 ∧ n ≤ 1 ∧ s.size = 0 ∧ ks = [] ∧ len = 0) ∨ (k = 2 ∧ n ≤ 255 ∧ s.size = 0 ∧ ks = [] ∧ len = 0) ∨
 ((k = 49 ∨ k = 50) ∧ s.size = 0 ∧ ks = [] ∧ len = 0) ∨ (k = 149 ∧ n = 0 ∧ s.size ≤ 4096 ∧ u8s s = true ∧ ks = [] ∧ len = 0) ∨ (k = 160 ∧ n = 0 ∧ s.size ≤ 4096 ∧ ks = [] ∧ len = 0) ∨
 (k = 168 ∧ n = 0 ∧ s.size = 0 ∧ ks.length = len ∧ ae1 ks = true) ∨ (k = 169 ∧ n = 0 ∧ s.size = 0 ∧ ks = []) := by
 unfold aaw at h
 simp only [jj, Bool.or_eq_true, beq_iff_eq, List.isEmpty_iff] at h
 obtain ⟨⟨h1, h2⟩, h3⟩ := h
 have hks : k ≠ 168 → ks = [] := fun hk => h1.resolve_left hk
 have hl : k ≠ 168 → k ≠ 169 → len = 0 := fun a b => by rcases h2 with (h | h) | h; exact jp h a; exact jp h b; exact h
 by_cases a1 : k = 240
 ·rw [qw a1] at h3; simp only [jj, beq_iff_eq] at h3; exact .inl ⟨a1, h3.1, h3.2, hks (by omega), hl (by omega) (by omega)⟩
 rw [qk a1] at h3
 by_cases a2 : k = 8
 ·rw [qw a2] at h3; simp only [jj, beq_iff_eq, qm] at h3; exact .inr (.inl ⟨a2, h3.1, h3.2, hks (by omega), hl (by omega) (by omega)⟩)
 rw [qk a2] at h3
 by_cases a3 : k = 2
 ·rw [qw a3] at h3; simp only [jj, beq_iff_eq, qm] at h3; exact .inr (.inr (.inl ⟨a3, h3.1, h3.2, hks (by omega), hl (by omega) (by omega)⟩))
 rw [qk a3] at h3
 by_cases a4 : k = 49 ∨ k = 50
 ·rw [qw a4] at h3; simp only [beq_iff_eq] at h3; exact .inr (.inr (.inr (.inl ⟨a4, h3, hks (by omega), hl (by omega) (by omega)⟩)))
 rw [qk a4] at h3
 by_cases a5 : k = 149
 ·rw [qw a5] at h3; simp only [jj, beq_iff_eq, qm] at h3; exact .inr (.inr (.inr (.inr (.inl ⟨a5, h3.1.1, h3.1.2, h3.2, hks (by omega), hl (by omega) (by omega)⟩))))
 rw [qk a5] at h3
 by_cases a6 : k = 160
 ·rw [qw a6] at h3; simp only [jj, beq_iff_eq, qm] at h3; exact .inr (.inr (.inr (.inr (.inr (.inl ⟨a6, h3.1, h3.2, hks (by omega), hl (by omega) (by omega)⟩)))))
 rw [qk a6] at h3
 by_cases a7 : k = 168
 ·rw [qw a7] at h3; simp only [jj, beq_iff_eq] at h3; exact .inr (.inr (.inr (.inr (.inr (.inr (.inl ⟨a7, h3.1.2, h3.2, h3.1.1.1, h3.1.1.2⟩))))))
 rw [qk a7] at h3
 by_cases a8 : k = 169
 ·rw [qw a8] at h3; simp only [jj, beq_iff_eq] at h3; exact .inr (.inr (.inr (.inr (.inr (.inr (.inr ⟨a8, h3.1, h3.2, hks a7⟩))))))
 rw [qk a8] at h3; exact jp h3 (by simp)
inductive V.Wf : V → Prop
 | mk {k n : Int} {s : ByteArray} {ks : List ByteArray} {l : List V} : 0 ≤ n → n < 18446744073709551616 → 0 ≤ k → k < 256 → (∀ t ∈ l, V.Wf t) → V.Wf (.mk k n s ks l)
theorem V.Wf.inv {k n : Int} {s : ByteArray} {ks : List ByteArray} {l : List V} (h : V.Wf (.mk k n s ks l)) : 0 ≤ n ∧ n < 18446744073709551616 ∧ 0 ≤ k ∧ k < 256 ∧ ∀ t ∈ l, V.Wf t := by
 cases h with | mk a b c d e => exact ⟨a, b, c, d, e⟩
theorem ahe (m : Bool) : ∀ (l : List V) (ks : List ByteArray) (left : Int), (∀ t ∈ l, ∀ left : Int, 0 ≤ t.cnt left → (t.bytes.length : Int) + 256 ≤ 5000 * (left - t.cnt left)) →
 (m = true → ∀ k ∈ ks, k.size ≤ 255) → 0 ≤ V.cntL l left → ((V.bytesL m ks l).length : Int) ≤ 5000 * (left - V.cntL l left)
 | [], ks, left, _, _, _ => by unfold V.bytesL V.cntL; simp
 | x :: xs, ks, left, hx, hk, hc => by
  unfold V.cntL at hc ⊢; by_cases hn : left < 0
  ·rw [qw hn] at hc; omega
  ·rw [qk hn] at hc ⊢
   unfold V.bytesL; have h1 := hx x (List.mem_cons_self ..) left (by have := af4 xs (x.cnt left); omega); have h2 := ahe m xs ks.tail (x.cnt left) (fun t ht => hx t (List.mem_cons_of_mem _ ht)) (fun hm k hk' => hk hm k (List.mem_of_mem_tail hk')) hc
   have h3 : ((if m = true then be 1 (ks.headD ByteArray.empty).size ++ (ks.headD ByteArray.empty).data.toList else []).length : Int) ≤ 256 := by
    split
    ·rename_i hm
     rw [jz, aao, acj]
     have : (ks.headD ByteArray.empty).size ≤ 255 := by
      cases ks with
      | nil => simp
      | cons a az => exact hk hm a (List.mem_cons_self ..)
     omega
    ·simp
   rw [jz, jz]
   push_cast at *
   omega
theorem aiv : ∀ (v : V), v.may = true → ∀ left : Int, 0 ≤ v.cnt left → (v.bytes.length : Int) + 256 ≤ 5000 * (left - v.cnt left) := by
 intro v
 induction v using V.ind with
 | h k n s ks l ih =>
  intro hm left hc; obtain ⟨hh, hL⟩ := ax5 hm; have hcl := hc; unfold V.cnt at hc ⊢; have hle := af4 l (left - 1); have hb : (∀ k' ∈ ks, k'.size ≤ 255) → ((V.bytesL (k == 168) ks l).length : Int) ≤ 5000 * (left - 1 - V.cntL l (left - 1)) := fun hk => ahe _ l ks (left - 1) (fun t ht => ih t ht (agw hL t ht)) (fun _ => hk) hc
  have hsz := acj s; unfold V.bytes; rcases adg hh with h | h | h | h | h | h | h | h
  ·obtain ⟨rfl, -⟩ := h; simp; omega
  ·obtain ⟨rfl, -⟩ := h; simp [aao]; omega
  ·obtain ⟨rfl, -⟩ := h; simp [aao]; omega
  ·obtain ⟨rfl | rfl, -⟩ := h <;> (simp [aao]; omega)
  ·obtain ⟨rfl, -, h1, -⟩ := h; simp [aao]; omega
  ·obtain ⟨rfl, -, h1, -⟩ := h; simp [aao]; omega
  ·obtain ⟨rfl, -, -, -, h1⟩ := h
   have := hb (fun k' hk' => (ahd h1 k' hk').2); simp [aao] at this ⊢; omega
  ·obtain ⟨rfl, -, -, rfl⟩ := h
   have := hb (fun k' hk' => by simp at hk'); simp [aao] at this ⊢; omega
theorem apy (l : List V) (m : Int) (h : 0 ≤ V.cntL l m) : (l.length : Int) ≤ m - V.cntL l m := by
 induction l generalizing m with
 | nil => unfold V.cntL; simp
 | cons x xs ih =>
  unfold V.cntL at h ⊢; by_cases hn : m < 0
  ·rw [qw hn] at h; omega
  ·rw [qk hn] at h ⊢
   have := ih _ h; have := ak2 x m; simp only [jn]; push_cast; omega
theorem ak3 (f : Int → List UInt8 → Option (V × Int × List UInt8)) (m : Bool) : ∀ (l : List V) (ks : List ByteArray) (left : Int) (r : List UInt8),
 (∀ t ∈ l, ∀ (left : Int) (r : List UInt8), left ≤ 200 → 0 ≤ t.cnt left → f left (t.bytes ++ r) = some (t, t.cnt left, r)) →
 (m = true → ks.length = l.length ∧ ∀ k ∈ ks, k.size ≤ 255) → (m = false → ks = []) → left ≤ 200 → 0 ≤ V.cntL l left →
 abk f m l.length left (V.bytesL m ks l ++ r) = some (ks, l, V.cntL l left, r)
 | [], ks, left, r, _, hk, hk', _, _ => by
  have : ks = [] := by
   cases m
   ·exact hk' rfl
   ·exact List.length_eq_zero_iff.1 (hk rfl).1
  subst this; unfold V.bytesL V.cntL abk; simp
 | x :: xs, ks, left, r, hf, hk, hk', hl, hc => by
  unfold V.cntL at hc ⊢; by_cases hn : left < 0
  ·rw [qw hn] at hc; omega
  ·rw [qk hn] at hc ⊢
   have hx := ak2 x left; have hxL := af4 xs (x.cnt left); have h1 := hf x (List.mem_cons_self ..) left; have h2 := fun ks' h3 h4 => ak3 f m xs ks' (x.cnt left) r (fun t ht => hf t (List.mem_cons_of_mem _ ht)) h3 h4 (by omega) hc
   unfold V.bytesL; rw [jn]; unfold abk; cases m
   ·obtain rfl := hk' rfl
    have h2' := h2 [] (by simp) (fun _ => rfl); simp only [Bool.false_eq_true, ↓reduceIte, List.nil_append, Option.bind_some, List.append_assoc, List.tail_nil]; rw [h1 _ hl (by omega), Option.bind_some]; dsimp only; rw [h2', Option.bind_some]
   ·obtain ⟨hl', hk2⟩ := hk rfl
    cases ks with
    | nil => simp at hl'
    | cons a az =>
     have h2' := h2 az (fun _ => ⟨by simpa using hl', fun k hk => hk2 k (List.mem_cons_of_mem _ hk)⟩) (by simp); have ha := hk2 a (List.mem_cons_self ..); simp only [↓reduceIte, List.headD_cons, List.tail_cons, List.append_assoc]; rw [apv 1 255 a (by omega) ha, Option.bind_some]; dsimp only; rw [h1 _ hl (by omega), Option.bind_some]; dsimp only; rw [h2', Option.bind_some]
theorem avu {d : Nat} {k n : Int} {s : ByteArray} {ks : List ByteArray} {l : List V} (h : (V.mk k n s ks l).deep (d + 1) = false) : ∀ t ∈ l, t.deep d = false := by
 unfold V.deep at h
 intro t ht
 have := List.any_eq_false.1 h t ht
 simpa using this
theorem ahz (k : Int) (h0 : 0 ≤ k) (h1 : k < 256) (r : List UInt8) : gN 1 (UInt8.ofNat k.toNat :: r) = some (k.toNat, r) := by
 have := akq 1 k.toNat (by omega) r
 unfold be at this
 have e : be 0 (k.toNat / 256) = [] := rfl
 rw [e, Nat.mod_eq_of_lt (by omega)] at this
 exact this
theorem af5 {s : ByteArray} (h : s.size = 0) : s = ByteArray.empty := by
 obtain ⟨d⟩ := s
 have : d = #[] := Array.eq_empty_of_size_eq_zero h
 subst this; rfl
theorem ash : ∀ (d : Nat) (v : V) (left : Int) (r : List UInt8), v.Wf → v.deep d = false → v.may = true → left ≤ 200 → 0 ≤ v.cnt left → rdP d left (v.bytes ++ r) = some (v, v.cnt left, r)
 | 0, v, _, _, _, hd, _, _, _ => by cases v; unfold V.deep at hd; simp at hd
 | d + 1, .mk k n s ks l, left, r, hw, hd, hm, hl, hc => by
  obtain ⟨hh, hL⟩ := ax5 hm; obtain ⟨n0, n1, -, -, hwl⟩ := hw.inv; have hda := avu hd; have hc0 := hc; have hblen := fun (h : ∀ k' ∈ ks, k'.size ≤ 255) => ahe (k == 168) l ks (left - 1) (fun t ht => aiv t (agw hL t ht)) (fun _ => h) (by unfold V.cnt at hc; exact hc)
  unfold V.cnt at hc ⊢; have hle := af4 l (left - 1); have hlen := apy l (left - 1) hc
  have hsub := fun (h1 : (k == 168) = true → ks.length = l.length ∧ ∀ k' ∈ ks, k'.size ≤ 255) (h2 : (k == 168) = false → ks = []) =>
   ak3 (rdP d) (k == 168) l ks (left - 1) r (fun t ht left r hl hc => ash d t left r (hwl t ht) (hda t ht) (agw hL t ht) hl hc) h1 h2 (by omega) hc
  unfold V.bytes rdP; have hneg : ¬ left - 1 < 0 := by omega
  rcases adg hh with h | h | h | h | h | h | h | h
  ·obtain ⟨rfl, rfl, h2, rfl, h3⟩ := h
   obtain rfl := List.length_eq_zero_iff.1 h3; obtain rfl := af5 h2; rw [List.cons_append, ahz _ (by omega) (by omega), Option.bind_some]; simp [hneg]; unfold V.cntL; rfl
  ·obtain ⟨rfl, h1, h2, rfl, h3⟩ := h
   obtain rfl := List.length_eq_zero_iff.1 h3; obtain rfl := af5 h2; rw [List.cons_append, ahz _ (by omega) (by omega), Option.bind_some]; have := akq 1 n.toNat (by omega) r; simp [hneg, this, Int.toNat_of_nonneg n0]; unfold V.cntL; rfl
  ·obtain ⟨rfl, h1, h2, rfl, h3⟩ := h
   obtain rfl := List.length_eq_zero_iff.1 h3; obtain rfl := af5 h2; rw [List.cons_append, ahz _ (by omega) (by omega), Option.bind_some]; have := akq 1 n.toNat (by omega) r; simp [hneg, this, Int.toNat_of_nonneg n0]; unfold V.cntL; rfl
  ·obtain ⟨hk, h2, rfl, h3⟩ := h
   obtain rfl := List.length_eq_zero_iff.1 h3; obtain rfl := af5 h2; have := akq 8 n.toNat (by omega) r; rcases hk with rfl | rfl
   all_goals
    rw [List.cons_append, ahz _ (by omega) (by omega), Option.bind_some]; simp [hneg, this, Int.toNat_of_nonneg n0]; unfold V.cntL; rfl
  ·obtain ⟨rfl, rfl, h1, -, rfl, h3⟩ := h
   obtain rfl := List.length_eq_zero_iff.1 h3; rw [List.cons_append, ahz _ (by omega) (by omega), Option.bind_some]; have := apv 2 4096 s (by omega) h1 r; simp [hneg, this]; unfold V.cntL; rfl
  ·obtain ⟨rfl, rfl, h1, rfl, h3⟩ := h
   obtain rfl := List.length_eq_zero_iff.1 h3; rw [List.cons_append, ahz _ (by omega) (by omega), Option.bind_some]; have := apv 4 4096 s (by omega) h1 r; simp [hneg, this]; unfold V.cntL; rfl
  ·obtain ⟨rfl, rfl, h1, h2, h3⟩ := h
   obtain rfl := af5 h1; have hkk := ahd h3; have hb := hblen (fun k' hk' => (hkk k' hk').2); have hs := hsub (fun _ => ⟨h2, fun k' hk' => (hkk k' hk').2⟩) (by simp); rw [List.cons_append, ahz _ (by omega) (by omega), Option.bind_some]; have g1 := akq 4 (4 + (V.bytesL true ks l).length) (by simp at hb; omega) (be 4 l.length ++ (V.bytesL true ks l ++ r)); have g2 := akq 4 l.length (by omega) (V.bytesL true ks l ++ r); simp at hs hb; have e1 : ((be 4 l.length ++ (V.bytesL true ks l ++ r)).length) - r.length = 4 + (V.bytesL true ks l).length := by simp [aao]; omega
   have e2 : 4 + (V.bytesL true ks l).length ≤ (be 4 l.length ++ (V.bytesL true ks l ++ r)).length ∧ l.length < 200 := ⟨by simp [aao], by omega⟩; simp [hneg, g1, g2, hs, aao] at e1 e2 ⊢; omega
  ·obtain ⟨rfl, rfl, h1, rfl⟩ := h
   obtain rfl := af5 h1; have hb := hblen (fun k' hk' => by simp at hk'); have hs := hsub (by simp) (fun _ => rfl); rw [List.cons_append, ahz _ (by omega) (by omega), Option.bind_some]; have g1 := akq 4 (4 + (V.bytesL false [] l).length) (by simp at hb; omega) (be 4 l.length ++ (V.bytesL false [] l ++ r)); have g2 := akq 4 l.length (by omega) (V.bytesL false [] l ++ r); simp at hs hb; simp [hneg, g1, g2, hs, aao]; omega
theorem aah {α β : Type} {o : Option α} {f : α → Option β} {y : β} (h : o.bind f = some y) : ∃ x, o = some x ∧ f x = some y := by
 cases o with
 | none => simp at h
 | some x => exact ⟨x, rfl, h⟩
theorem ak4 (f : Int → List UInt8 → Option (V × Int × List UInt8)) (m : Bool) (hf : ∀ left b x l' r', f left b = some (x, l', r') → b = x.bytes ++ r' ∧ x.Wf) :
 ∀ (n : Nat) (left : Int) (b : List UInt8) (ks : List ByteArray) (l : List V) (left' : Int) (r : List UInt8), abk f m n left b = some (ks, l, left', r) →
 b = V.bytesL m ks l ++ r ∧ l.length = n ∧ (m = false → ks = []) ∧ ∀ t ∈ l, t.Wf
 | 0, left, b, ks, l, left', r, h => by
  unfold abk at h; simp only [jy, jm] at h; obtain ⟨rfl, rfl, rfl, rfl⟩ := h; refine ⟨by unfold V.bytesL; rfl, rfl, fun _ => rfl, by simp⟩
 | n + 1, left, b, ks, l, left', r, h => by
  unfold abk at h; obtain ⟨⟨key, b1⟩, h1, h⟩ := aah h; obtain ⟨⟨x, left1, b2⟩, h2, h⟩ := aah h; obtain ⟨⟨ks1, l1, left2, b3⟩, h3, h⟩ := aah h; simp only [jy, jm] at h; obtain ⟨hk, rfl, rfl, rfl⟩ := h; obtain ⟨e2, w2⟩ := hf _ _ _ _ _ h2; obtain ⟨e3, q1, q2, q3⟩ := ak4 f m hf n _ _ _ _ _ _ h3
  have hw : ∀ t ∈ x :: l1, t.Wf := fun t ht => by
   rcases List.mem_cons.1 ht with rfl | ht
   ·exact w2
   ·exact q3 t ht
  unfold V.bytesL; cases m
  ·simp only [Bool.false_eq_true, ↓reduceIte, jy, jm] at h1 hk
   obtain ⟨-, rfl⟩ := h1; subst hk; obtain rfl := q2 rfl; refine ⟨by rw [e2, e3]; simp, by simp [q1], fun _ => rfl, hw⟩
  ·simp only [↓reduceIte] at h1 hk
   subst hk; obtain ⟨e1, -, -⟩ := apw h1; refine ⟨by rw [e1, e2, e3]; simp, by simp [q1], by simp, hw⟩
theorem avv {k : Nat} {b b1 : List UInt8} (h : gN 1 b = some (k, b1)) : b = UInt8.ofNat k :: b1 ∧ k < 256 := by
 obtain ⟨h1, h2⟩ := ahy h
 refine ⟨?_, h2⟩
 rw [h1]; unfold be
 rw [Nat.mod_eq_of_lt (by omega)]; rfl
theorem aog : ∀ (d : Nat) (left : Int) (b : List UInt8) (v : V) (left' : Int) (r : List UInt8), rdP d left b = some (v, left', r) → b = v.bytes ++ r ∧ v.Wf
 | 0, _, _, _, _, _, h => by unfold rdP at h; simp at h
 | d + 1, left, b, v, left', r, h => by
  unfold rdP at h; obtain ⟨⟨k, b1⟩, h1, h⟩ := aah h; obtain ⟨e1, k1⟩ := avv h1; dsimp only at h; have hk8 : ((k : Int)).toNat = k := by omega
  split at h
  ·simp at h
  split at h
  ·rename_i hk
   simp only [jy, jm] at h; obtain ⟨rfl, -, rfl⟩ := h; obtain rfl : k = 240 := by omega
   exact ⟨by rw [e1]; unfold V.bytes; simp, .mk (by omega) (by omega) (by omega) (by omega) (by simp)⟩
  split at h
  ·rename_i hk
   obtain ⟨⟨n, b2⟩, h2, h⟩ := aah h; simp only [jy, jm] at h; obtain ⟨rfl, -, rfl⟩ := h; obtain ⟨e2, n2⟩ := ahy h2; refine ⟨?_, .mk (by omega) (by omega) (by omega) (by omega) (by simp)⟩; have : k = 8 ∨ k = 2 := by omega
   rcases this with rfl | rfl <;> (rw [e1, e2]; unfold V.bytes; simp)
  split at h
  ·rename_i hk
   obtain ⟨⟨n, b2⟩, h2, h⟩ := aah h; simp only [jy, jm] at h; obtain ⟨rfl, -, rfl⟩ := h; obtain ⟨e2, n2⟩ := ahy h2; refine ⟨?_, .mk (by omega) (by omega) (by omega) (by omega) (by simp)⟩; have : k = 49 ∨ k = 50 := by omega
   rcases this with rfl | rfl <;> (rw [e1, e2]; unfold V.bytes; simp)
  split at h
  ·rename_i hk
   obtain ⟨⟨s, b2⟩, h2, h⟩ := aah h; simp only [jy, jm] at h; obtain ⟨rfl, -, rfl⟩ := h; obtain ⟨e2, n2⟩ := apw h2; refine ⟨?_, .mk (by omega) (by omega) (by omega) (by omega) (by simp)⟩; obtain rfl : k = 149 := by omega
   rw [e1, e2]; unfold V.bytes; simp
  split at h
  ·rename_i hk
   obtain ⟨⟨s, b2⟩, h2, h⟩ := aah h; simp only [jy, jm] at h; obtain ⟨rfl, -, rfl⟩ := h; obtain ⟨e2, n2⟩ := apw h2; refine ⟨?_, .mk (by omega) (by omega) (by omega) (by omega) (by simp)⟩; obtain rfl : k = 160 := by omega
   rw [e1, e2]; unfold V.bytes; simp
  split at h
  ·rename_i hk
   obtain ⟨⟨size, b2⟩, h2, h⟩ := aah h; obtain ⟨⟨n, b3⟩, h3, h⟩ := aah h; dsimp only at h; split at h
   ·rename_i hc
    obtain ⟨⟨ks, l, left2, b4⟩, h4, h⟩ := aah h; dsimp only at h; split at h
    ·rename_i hs
     simp only [jy, jm] at h; obtain ⟨rfl, -, rfl⟩ := h; obtain ⟨e2, n2⟩ := ahy h2; obtain ⟨e3, n3⟩ := ahy h3; obtain ⟨e4, q1, -, q3⟩ := ak4 (rdP d) _ (fun left b x l' r' h => aog d left b x l' r' h) _ _ _ _ _ _ _ h4; refine ⟨?_, .mk (by omega) (by omega) (by omega) (by omega) q3⟩; subst q1
     have hsz : size = 4 + (V.bytesL (k == 168) ks l).length := by
      dsimp only at e3; rw [e3, e4] at hs; simp [aao] at hs; omega
     dsimp only at e3; have : k = 168 ∨ k = 169 := by omega
     rw [e1, e2, e3, e4, hsz]; rcases this with rfl | rfl <;> (unfold V.bytes; simp)
    ·simp at h
   ·simp at h
  ·simp at h
theorem al3 {v : V} (h : v.chk = 0) : v.deep 6 = false ∧ 0 ≤ v.cnt 200 ∧ v.may = true := by
 unfold V.chk at h
 split at h
 ·omega
 ·rename_i h1
  split at h
  ·omega
  ·rename_i h2
   split at h
   ·rename_i h3; exact ⟨by simpa using h1, by omega, h3⟩
   ·omega
theorem apz {v : V} (hw : v.Wf) (h : v.chk = 0) (r : List UInt8) : ako (v.bytes ++ r) = some (v, v.bytes.length) := by
 obtain ⟨h1, h2, h3⟩ := al3 h
 unfold ako
 rw [ash 6 v 200 r hw h1 h3 (by omega) h2, Option.bind_some]
 dsimp only
 rw [qw h]; simp
theorem avw {b : List UInt8} {v : V} {n : Nat} (h : ako b = some (v, n)) : v.chk = 0 ∧ v.Wf ∧ n = v.bytes.length ∧ ∃ r, b = v.bytes ++ r := by
 unfold ako at h
 obtain ⟨⟨v1, left, r⟩, h1, h⟩ := aah h
 dsimp only at h
 split at h
 ·rename_i hc
  simp only [jy, jm] at h; obtain ⟨rfl, rfl⟩ := h; obtain ⟨e, hw⟩ := aog _ _ _ _ _ _ h1; exact ⟨hc, hw, by rw [e]; simp, r, e⟩
 ·simp at h
def ax6 (o : Option (V × Nat)) : V := match o with | some (x, _) => x | none => .mk 0 0 ⟨#[]⟩ [] []
def bdv (o : Option (V × Nat)) : Nat := match o with | some (_, n) => n | none => 0
def bdw (o : Option (V × Nat)) : Int := match o with | some _ => 0 | none => 5
structure Pr where
 key : ByteArray
 dur : Bool
 red : Bool
 id : ByteArray
 app : V
def V.zero : V := .mk 0 0 ⟨#[]⟩ [] []
def V.isZ (v : V) : Bool := v.kind == 0 && v.num == 0 && v.str.size == 0 && v.keys.isEmpty && v.list.isEmpty
theorem ayq (v : V) : v.isZ = true ↔ v = V.zero := by
 obtain ⟨k, n, s, ks, l⟩ := v
 unfold V.isZ V.zero
 simp only [V.kind, V.num, V.str, V.keys, V.list, jj, beq_iff_eq, List.isEmpty_iff, V.mk.injEq]
 constructor
 ·rintro ⟨⟨⟨⟨h1, h2⟩, h3⟩, h4⟩, h5⟩; exact ⟨h1, h2, af5 h3, h4, h5⟩
 ·rintro ⟨h1, h2, h3, h4, h5⟩; exact ⟨⟨⟨⟨h1, h2⟩, by rw [h3]; rfl⟩, h4⟩, h5⟩
instance isZ_dec (v : V) : Decidable (v = V.zero) := decidable_of_iff (v.isZ = true) (ayq v)
def Pr.chk (p : Pr) : Int := if p.key.size ≤ 255 ∧ p.id.size ≤ 255 ∧ (p.app = V.zero ∨ p.app.kind = 168 ∧ p.app.chk = 0) then 0 else 90
theorem bat (p : Pr) : p.chk = 0 ∨ p.chk = 90 := by unfold Pr.chk; split; exact .inl rfl; exact .inr rfl
theorem akr {p : Pr} : p.chk = 0 ↔ p.key.size ≤ 255 ∧ p.id.size ≤ 255 ∧ (p.app = V.zero ∨ p.app.kind = 168 ∧ p.app.chk = 0) := by
 unfold Pr.chk
 constructor
 ·intro h
  by_cases h1 : p.key.size ≤ 255 ∧ p.id.size ≤ 255 ∧ (p.app = V.zero ∨ p.app.kind = 168 ∧ p.app.chk = 0)
  ·exact h1
  ·rw [qk h1] at h; omega
 ·intro h; exact qw h
def stx (s : ByteArray) : List UInt8 := if s.size = 0 then [] else UInt8.ofNat s.size :: s.data.toList
def part (b : List UInt8) : List UInt8 := be 4 b.length ++ b
def fl1 (p : Pr) : Nat := (if p.dur then 1 else 0) + (if p.red then 2 else 0) + (if p.key.size = 0 then 0 else 4)
def fl2 (p : Pr) : Nat := (if p.id.size = 0 then 0 else 1) + (if p.app.kind = 168 then 2 else 0)
def aoh (p : Pr) : List UInt8 := [4, 1, 0, UInt8.ofNat (fl1 p)] ++ stx p.key
def ahf (p : Pr) : List UInt8 := [4, 3, 0, UInt8.ofNat (fl2 p)] ++ stx p.id ++ (if p.app.kind = 168 then p.app.bytes else [])
def Pr.bytes (p : Pr) : List UInt8 := part (aoh p) ++ (if fl2 p = 0 then [] else part (ahf p))
def Pr.text (p : Pr) : ByteArray := ⟨p.bytes.toArray⟩
abbrev RS := List UInt8 × Bool
def tkR (n : Nat) (r : RS) : List UInt8 × RS := if r.2 = false ∧ n ≤ r.1.length then (r.1.take n, (r.1.drop n, false)) else ([], ([], true))
def nmR (w : Nat) (r : RS) : Nat × RS := if r.2 = false then (match gN w r.1 with | some (n, b) => (n, (b, false)) | none => (0, ([], true))) else (0, ([], true))
def txR (w most : Nat) (r : RS) : ByteArray × RS := if r.2 = false then (match gT w most r.1 with | some (s, b) => (s, (b, false)) | none => (⟨#[]⟩, ([], true))) else (⟨#[]⟩, ([], true))
theorem aoi (l b : List UInt8) : tkR l.length (l ++ b, false) = (l, (b, false)) := by
 unfold tkR
 rw [qw ⟨rfl, by simp⟩]
 simp
theorem asi (n : Nat) (l b : List UInt8) (h : l.length = n) : tkR n (l ++ b, false) = (l, (b, false)) := by subst h; exact aoi l b
theorem amv (w n : Nat) (h : n < 256 ^ w) (b : List UInt8) : nmR w (be w n ++ b, false) = (n, (b, false)) := by
 unfold nmR
 rw [qw rfl]
 show (match gN w (be w n ++ b) with | some (n, b) => (n, ((b, false) : RS)) | none => (0, ([], true))) = _
 rw [akq w n h b]
theorem ap0 {n : Nat} (h : n < 256) : be 1 n = [UInt8.ofNat n] := by unfold be; rw [Nat.mod_eq_of_lt h]; rfl
theorem amw {n : Nat} (h : n < 256) : be 2 n = [0, UInt8.ofNat n] := by
 show be 1 (n / 256) ++ [UInt8.ofNat (n % 256)] = _
 rw [Nat.div_eq_of_lt h, Nat.mod_eq_of_lt h]; rfl
theorem ayr (s : ByteArray) (h : s.size ≤ 255) (b : List UInt8) : txR 1 255 (UInt8.ofNat s.size :: (s.data.toList ++ b), false) = (s, (b, false)) := by
 unfold txR
 rw [qw rfl]
 have e := apv 1 255 s (by omega) h b
 rw [ap0 (by omega)] at e
 show (match gT 1 255 ([UInt8.ofNat s.size] ++ (s.data.toList ++ b)) with | some (s, b) => (s, ((b, false) : RS)) | none => (⟨#[]⟩, ([], true))) = _
 rw [e]
def aoj (there : Bool) (r : RS) : ByteArray × RS := if there then txR 1 255 r else (⟨#[]⟩, r)
theorem agx (s : ByteArray) (h : s.size ≤ 255) (b : List UInt8) (is : Bool) (hi : is = !(s.size == 0)) : aoj is (stx s ++ b, false) = (s, (b, false)) := by
 subst hi
 unfold aoj stx
 by_cases h0 : s.size = 0
 ·rw [qw h0, h0]
  show ((⟨#[]⟩ : ByteArray), ((b, false) : RS)) = _
  rw [af5 h0]; rfl
 ·rw [qk h0]
  have : (!(s.size == 0)) = true := by simp [h0]
  rw [this]; exact ayr s h b
def pgA (r : RS) : (Bool × Bool × ByteArray) × RS :=
 let f := nmR 2 (tkR 6 r).2
 let k := aoj (f.1 / 4 % 2 == 1) f.2
 ((f.1 % 2 == 1, f.1 / 2 % 2 == 1, k.1), k.2)
def pgB (r : RS) : (ByteArray × V) × RS :=
 let f := nmR 2 (tkR 6 r).2
 let k := aoj (f.1 % 2 == 1) f.2
 if f.1 / 2 % 2 = 1 then let t := tkR k.2.1.length k.2; ((k.1, ax6 (ako t.1)), t.2) else ((k.1, V.zero), k.2)
def pgP (b : List UInt8) : Pr × RS :=
 let x := pgA (b, false)
 if 0 < x.2.1.length then let y := pgB x.2; (⟨x.1.2.2, x.1.1, x.1.2.1, y.1.1, y.1.2⟩, y.2) else (⟨x.1.2.2, x.1.1, x.1.2.1, ⟨#[]⟩, V.zero⟩, x.2)
def dgA (r : RS) : (Bool × Bool × ByteArray) × RS :=
 let f := nmR 1 (tkR 7 r).2
 let k := aoj (f.1 / 4 % 2 == 1) f.2
 ((f.1 % 2 == 1, f.1 / 2 % 2 == 1, k.1), k.2)
def dgB (r : RS) : ByteArray × V :=
 let f := nmR 1 (tkR 7 r).2
 let k := aoj (f.1 % 2 == 1) f.2
 (k.1, if f.1 / 2 % 2 = 1 then ax6 (ako k.2.1) else V.zero)
def pgD (b : List UInt8) : Pr :=
 let x := dgA (b, false)
 if 0 < x.2.1.length then let y := dgB x.2; ⟨x.1.2.2, x.1.1, x.1.2.1, y.1, y.2⟩ else ⟨x.1.2.2, x.1.1, x.1.2.1, ⟨#[]⟩, V.zero⟩
theorem ax7 (p : Pr) : fl1 p < 8 := by unfold fl1; cases p.dur <;> cases p.red <;> by_cases h : p.key.size = 0 <;> simp [h]
theorem asj (p : Pr) : fl2 p < 4 := by unfold fl2; by_cases h : p.id.size = 0 <;> by_cases h2 : p.app.kind = 168 <;> simp [h, h2]
theorem bav (p : Pr) : (fl1 p % 2 == 1) = p.dur := by unfold fl1; cases p.dur <;> cases p.red <;> by_cases h : p.key.size = 0 <;> simp [h]
theorem baw (p : Pr) : (fl1 p / 2 % 2 == 1) = p.red := by unfold fl1; cases p.dur <;> cases p.red <;> by_cases h : p.key.size = 0 <;> simp [h]
theorem bay (p : Pr) : (fl1 p / 4 % 2 == 1) = !(p.key.size == 0) := by unfold fl1; cases p.dur <;> cases p.red <;> by_cases h : p.key.size = 0 <;> simp [h]
theorem ays (p : Pr) : (fl2 p % 2 == 1) = !(p.id.size == 0) := by unfold fl2; by_cases h : p.id.size = 0 <;> by_cases h2 : p.app.kind = 168 <;> simp [h, h2]
theorem ask (p : Pr) : (fl2 p / 2 % 2 = 1) ↔ p.app.kind = 168 := by unfold fl2; by_cases h : p.id.size = 0 <;> by_cases h2 : p.app.kind = 168 <;> simp [h, h2]
theorem bcn (p : Pr) : fl2 p = 0 ↔ p.id.size = 0 ∧ p.app.kind ≠ 168 := by unfold fl2; by_cases h : p.id.size = 0 <;> by_cases h2 : p.app.kind = 168 <;> simp [h, h2]
theorem ayt (n : Nat) : ∃ a b c d, be 4 n = [a, b, c, d] := by
 have h := aao 4 n
 match be 4 n, h with
 | [a, b, c, d], _ => exact ⟨a, b, c, d, rfl⟩
theorem ae2 (b : List UInt8) (x y z c : UInt8) (r : List UInt8) : ∃ a1 a2 a3 a4, part ([x, y, z, c] ++ b) ++ r = [a1, a2, a3, a4, x, y] ++ ([z, c] ++ (b ++ r)) ∧ part ([x, y, z, c] ++ b) ++ r = [a1, a2, a3, a4, x, y, z] ++ ([c] ++ (b ++ r)) := by
 obtain ⟨a1, a2, a3, a4, h⟩ := ayt ([x, y, z, c] ++ b).length
 refine ⟨a1, a2, a3, a4, ?_, ?_⟩ <;> · unfold part; rw [h]; simp
theorem asl (p : Pr) (h : p.key.size ≤ 255) (r : List UInt8) : pgA (part (aoh p) ++ r, false) = ((p.dur, p.red, p.key), (r, false)) := by
 obtain ⟨a1, a2, a3, a4, e, -⟩ := ae2 (stx p.key) 4 1 0 (UInt8.ofNat (fl1 p)) r
 have h8 := ax7 p
 unfold pgA aoh
 rw [e, asi 6 [a1, a2, a3, a4, 4, 1] _ rfl, ← amw (show fl1 p < 256 by omega), amv 2 _ (by omega)]
 dsimp only
 rw [agx p.key h r _ (bay p), bav, baw]
theorem ayu (p : Pr) (h : p.key.size ≤ 255) (r : List UInt8) : dgA (part (aoh p) ++ r, false) = ((p.dur, p.red, p.key), (r, false)) := by
 obtain ⟨a1, a2, a3, a4, -, e⟩ := ae2 (stx p.key) 4 1 0 (UInt8.ofNat (fl1 p)) r
 have h8 := ax7 p
 unfold dgA aoh
 rw [e, asi 7 [a1, a2, a3, a4, 4, 1, 0] _ rfl, ← ap0 (show fl1 p < 256 by omega), amv 1 _ (by omega)]
 dsimp only
 rw [agx p.key h r _ (bay p), bav, baw]
theorem asm {p : Pr} (h : p.chk = 0) (hk : ¬ p.app.kind = 168) : p.app = V.zero := by
 rcases (akr.1 h).2.2 with h | h
 ·exact h
 ·exact jp h.1 hk
theorem asn {p : Pr} (h : p.chk = 0) (hk : p.app.kind = 168) : p.app.chk = 0 := by
 rcases (akr.1 h).2.2 with h | h
 ·rw [h] at hk; exact jp hk (by decide)
 ·exact h.2
theorem amx {v : V} (hw : v.Wf) (h : v.chk = 0) : ax6 (ako v.bytes) = v := by
 have e := apz hw h []
 rw [List.append_nil] at e
 rw [e]; rfl
theorem ayv (p : Pr) (hw : p.app.Wf) (h : p.chk = 0) : pgB (part (ahf p), false) = ((p.id, p.app), ([], false)) := by
 obtain ⟨a1, a2, a3, a4, e, -⟩ := ae2 (stx p.id ++ (if p.app.kind = 168 then p.app.bytes else [])) 4 3 0 (UInt8.ofNat (fl2 p)) []
 have h8 := asj p
 unfold pgB ahf
 rw [List.append_assoc, ← List.append_nil (part _), e, List.append_nil, asi 6 [a1, a2, a3, a4, 4, 3] _ rfl, ← amw (show fl2 p < 256 by omega), amv 2 _ (by omega)]
 dsimp only
 rw [agx p.id (akr.1 h).2.1 _ _ (ays p)]
 dsimp only
 by_cases hk : p.app.kind = 168
 ·rw [qw ((ask p).2 hk), qw hk]
  have e2 := aoi p.app.bytes []; rw [List.append_nil] at e2; rw [e2]; dsimp only; rw [amx hw (asn h hk)]
 ·rw [qk (fun e => hk ((ask p).1 e)), qk hk, asm h hk]
theorem ayw (p : Pr) (hw : p.app.Wf) (h : p.chk = 0) : dgB (part (ahf p), false) = (p.id, p.app) := by
 obtain ⟨a1, a2, a3, a4, -, e⟩ := ae2 (stx p.id ++ (if p.app.kind = 168 then p.app.bytes else [])) 4 3 0 (UInt8.ofNat (fl2 p)) []
 have h8 := asj p
 unfold dgB ahf
 rw [List.append_assoc, ← List.append_nil (part _), e, List.append_nil, asi 7 [a1, a2, a3, a4, 4, 3, 0] _ rfl, ← ap0 (show fl2 p < 256 by omega), amv 1 _ (by omega)]
 dsimp only
 rw [agx p.id (akr.1 h).2.1 _ _ (ays p)]
 dsimp only
 by_cases hk : p.app.kind = 168
 ·rw [qw ((ask p).2 hk), qw hk, amx hw (asn h hk)]
 ·rw [qk (fun e => hk ((ask p).1 e)), asm h hk]
theorem ap1 (b : List UInt8) : 0 < (part b).length := by unfold part; rw [jz, aao]; omega
theorem aiw {P : Prop} (h : P := by
 rw [qw hz]
 rw [qk (by simp)]
 obtain ⟨h1, h2⟩ := (bcn p).1 hz
 have h3 := asm h h2
 have h4 := af5 h1
 obtain ⟨a, b, c, d, e⟩ := p
 simp only at h3 h4
 rw [h3, h4]; rfl) : P := h
theorem ayx (p : Pr) (hw : p.app.Wf) (h : p.chk = 0) : pgP p.bytes = (p, ([], false)) := by
 unfold pgP Pr.bytes
 rw [asl p (akr.1 h).1]
 dsimp only
 by_cases hz : fl2 p = 0
 ·exact aiw
 ·rw [qk hz, qw (ap1 _), ayv p hw h]
theorem aok (p : Pr) (hw : p.app.Wf) (h : p.chk = 0) : pgD p.bytes = p := by
 unfold pgD Pr.bytes
 rw [ayu p (akr.1 h).1]
 dsimp only
 by_cases hz : fl2 p = 0
 ·exact aiw
 ·rw [qk hz, qw (ap1 _), ayw p hw h]
theorem baz {p q : Pr} (hp : p.app.Wf) (hq : q.app.Wf) (cp : p.chk = 0) (cq : q.chk = 0) (h : p.bytes = q.bytes) : p = q := by
 have e1 := aok p hp cp
 have e2 := aok q hq cq
 rw [← e1, ← e2, h]
def aol (b : List UInt8) (o : Option Pr) : Prop := match o with | some p => p.app.Wf ∧ p.chk = 0 ∧ p.bytes = b | none => ∀ p : Pr, p.app.Wf → p.chk = 0 → p.bytes ≠ b
theorem amy {b : List UInt8} {o o' : Option Pr} (h : aol b o) (h' : aol b o') : o = o' := by
 cases o with
 | none => cases o' with
  | none => rfl
  | some q => exact jp h'.2.2 (h q h'.1 h'.2.1)
 | some p => cases o' with
  | none => exact jp h.2.2 (h' p h.1 h.2.1)
  | some q => rw [baz h.1 h'.1 h.2.1 h'.2.1 (h.2.2.trans h'.2.2.symm)]
theorem amz {p : Pr} (hw : p.app.Wf) (h : p.chk = 0) {o : Option Pr} (ho : aol p.bytes o) : o = some p := amy ho (show aol p.bytes (some p) from ⟨hw, h, rfl⟩)
theorem ayy {b : List UInt8} (hw : (pgD b).app.Wf) : aol b (if (pgD b).chk = 0 ∧ (pgD b).bytes = b then some (pgD b) else none) := by
 split
 ·rename_i h; exact ⟨hw, h.1, h.2⟩
 ·rename_i h
  intro p hp cp e; have e1 := aok p hp cp; rw [e] at e1; rw [e1] at h; exact h ⟨cp, e⟩
theorem ayz {b : List UInt8} (hw : (pgP b).1.app.Wf) : aol b (if (pgP b).2.2 = false ∧ (pgP b).1.chk = 0 ∧ (pgP b).1.bytes = b then some (pgP b).1 else none) := by
 split
 ·rename_i h; exact ⟨hw, h.2.1, h.2.2⟩
 ·rename_i h
  intro p hp cp e; have e1 := ayx p hp cp; rw [e] at e1; rw [e1] at h; exact h ⟨rfl, cp, e⟩
theorem aso (b : List UInt8) : (ax6 (ako b)).Wf := by
 rcases h : ako b with _ | ⟨x, n⟩
 ·exact .mk (by omega) (by omega) (by omega) (by omega) (fun t ht => jp ht (by simp))
 ·exact (avw h).2.1
theorem al4 : V.zero.Wf := .mk (by omega) (by omega) (by omega) (by omega) (fun t ht => jp ht (by simp))
theorem ba0 (b : List UInt8) : (pgD b).app.Wf := by
 unfold pgD
 dsimp only
 split
 ·unfold dgB; dsimp only; split
  ·exact aso _
  ·exact al4
 ·exact al4
theorem ba7 (b : List UInt8) : (pgP b).1.app.Wf := by
 unfold pgP
 dsimp only
 split
 ·unfold pgB; dsimp only; split
  ·exact aso _
  ·exact al4
 ·exact al4
theorem aom (s : ByteArray) : (stx s).length ≤ s.size + 1 := by unfold stx; split; simp; simp [acj]
open Go.RowKit Tryz
def Own {α : Type} (base : Nat) (e : TypeId) (m : Nat) (enc : α → List Value) (w : World) (v : Value) (L : List α) : Prop :=
 w.ownsRow base e m v L.length (L.flatMap enc)
section
variable {α : Type} {base : Nat} {e : TypeId} {m : Nat} {enc : α → List Value} {w w' : World} {v : Value} {L : List α}
theorem Own.nil : Own base e m enc w (.slice none 0 0) [] := World.ownsRow_nil _ _ _ _
theorem Own.slc (hm : ∀ x, (enc x).length = m) (h : Own base e m enc w v L) : Slc enc m w v L := Slc.own hm h rfl
theorem Own.keep (h : Own base e m enc w v L) (hk : ∀ k, v.ownBlock = some k → k < w.heap.size → w'.heap[k]? = w.heap[k]?) : Own base e m enc w' v L := by
 refine ⟨h.1, ?_⟩
 rcases h.2 with hn | ⟨g, cap, cur, rfl, hb, hg, rest⟩
 ·exact .inl hn
 ·exact .inr ⟨g, cap, cur, rfl, hb, (hk g rfl (Array.getElem?_eq_some_iff.1 hg).1).trans hg, rest⟩
theorem Own.upd {S : Nat → Prop} (h : Own base e m enc w v L) (hu : Upd S w w') (hs : ∀ k, v.ownBlock = some k → ¬ S k) : Own base e m enc w' v L :=
 h.keep fun k hk hl => hu.block k hl (hs k hk)
theorem Own.pure (h : Own base e m enc w v L) (hu : Below w.heap.size w w') : Own base e m enc w' v L :=
 h.keep fun k _ hl => hu.block k hl
theorem Own.alloc (h : Own base e m enc w v L) (o : Obj) : Own base e m enc (w.alloc o) v L := h.pure ((qz _ _).alloc (qj _) _)
theorem Own.drew (h : Own base e m enc w v L) : Own base e m enc w.drew v L := h
theorem Own.other (h : Own base e m enc w v L) (p : Addr) (u : Value) (hne : ∀ k, v.ownBlock = some k → k ≠ p.block) : Own base e m enc (w.setCell p u) v L :=
 h.keep fun k hk _ => Below.heap_setCell _ _ _ _ (hne k hk)
theorem Own.lt (h : Own base e m enc w v L) {k : Nat} (hk : v.ownBlock = some k) : k < w.heap.size := (World.ownsRow.lt h k hk).2
theorem Own.ge (h : Own base e m enc w v L) {k : Nat} (hk : v.ownBlock = some k) : base ≤ k := (World.ownsRow.lt h k hk).1
theorem Own.rebase {b' : Nat} (h : Own base e m enc w v L) (hb : ∀ k, v.ownBlock = some k → b' ≤ k) : Own b' e m enc w v L := by
 refine ⟨h.1, ?_⟩
 rcases h.2 with hn | ⟨g, cap, cur, rfl, _, hg, rest⟩
 ·exact .inl hn
 ·exact .inr ⟨g, cap, cur, rfl, hb g rfl, hg, rest⟩
theorem Own.shape (h : Own base e m enc w v L) (hL : L ≠ []) : ∃ g cap, v = .slice (some ⟨g, 0, none⟩) L.length cap ∧ base ≤ g ∧ g < w.heap.size := by
 rcases h.2 with ⟨_, h0⟩ | ⟨g, cap, cur, rfl, hb, hg, _⟩
 ·exact jp (List.eq_nil_of_length_eq_zero h0) hL
 ·exact ⟨g, cap, rfl, hb, (Array.getElem?_eq_some_iff.1 hg).1⟩
theorem Own.cases (h : Own base e m enc w v L) : (v = .slice none 0 0 ∧ L = []) ∨ ∃ g cap, v = .slice (some ⟨g, 0, none⟩) L.length cap ∧ base ≤ g ∧ g < w.heap.size ∧ L.length ≤ cap ∧ cap ≤ maxLen := by
 rcases h.2 with ⟨hv, h0⟩ | ⟨g, cap, cur, rfl, hb, hg, h1, h2, _⟩
 ·exact .inl ⟨hv, List.eq_nil_of_length_eq_zero h0⟩
 ·exact .inr ⟨g, cap, rfl, hb, (Array.getElem?_eq_some_iff.1 hg).1, h1, h2⟩
theorem Own.cell (hm : ∀ x, (enc x).length = m) {g n cap : Nat} (h : Own base e m enc w (.slice (some ⟨g, 0, none⟩) n cap) L) (i : Nat) (hi : i < L.length) (j : Nat) (u : Value) (hu : (enc L[i])[j]? = some u) :
 w.cell? ⟨g, i * m + j, none⟩ = some u := by
 have h1 := World.ownsRow.cells h (g := g) rfl (i * m + j) u (aic hm L i hi j u hu)
 have e : (⟨g, 0, none⟩ : Addr).add (i * m + j) = ⟨g, i * m + j, none⟩ := by unfold Addr.add; split <;> simp_all
 rw [← e]; exact h1
theorem Own.frozen {g n cap : Nat} (h : Own base e m enc w (.slice (some ⟨g, 0, none⟩) n cap) L) (j : Nat) : w.frozen? ⟨g, j, none⟩ = false := by
 rcases h.2 with ⟨h', _⟩ | ⟨g', cap', cur, h', hb, hg, _⟩
 ·simp at h'
 ·simp only [Value.slice.injEq, jy, Addr.mk.injEq, and_true] at h'
  obtain ⟨rfl, _⟩ := h'; simp [World.frozen?, hg]
theorem ap2 (hm : ∀ x, (enc x).length = m) : ∀ (L : List α) (i : Nat) (h : i < L.length) (j : Nat) (u : Value) (x' : α), j < m → enc x' = (enc L[i]).set j u →
 (L.set i x').flatMap enc = (L.flatMap enc).set (i * m + j) u
 | [], i, h, _, _, _, _, _ => jp h (by simp)
 | x :: L, 0, _, j, u, x', hj, hx => by
  simp only [List.set_cons_zero, List.flatMap_cons, Nat.zero_mul, Nat.zero_add]; rw [List.set_append_left _ _ (by rw [hm]; exact hj)]; simp only [List.getElem_cons_zero] at hx; rw [hx]
 | x :: L, i + 1, h, j, u, x', hj, hx => by
  simp only [List.set_cons_succ, List.flatMap_cons]; rw [ap2 hm L i (by simpa using h) j u x' hj (by simpa using hx), List.set_append_right _ _ (by rw [hm, Nat.add_mul]; omega)]; congr 2; rw [hm, Nat.add_mul]; omega
theorem Own.set (hm : ∀ x, (enc x).length = m) {g n cap : Nat} (h : Own base e m enc w (.slice (some ⟨g, 0, none⟩) n cap) L) (i : Nat) (hi : i < L.length) (j : Nat) (u : Value) (x' : α)
 (hj : j < m) (hx : enc x' = (enc L[i]).set j u) : Own base e m enc (w.setCell ⟨g, i * m + j, none⟩ u) (.slice (some ⟨g, 0, none⟩) n cap) (L.set i x') := by
 have hn : n = L.length := by
  rcases h.2 with ⟨h', _⟩ | ⟨_, _, _, h', _⟩
  ·simp at h'
  ·simp only [Value.slice.injEq] at h'; exact h'.2.1
 subst hn
 have := (World.ownsRow.stored h (i * m + j) u).1
 unfold Own
 rw [List.length_set, ap2 hm L i hi j u x' hj hx]
 exact this
end
structure ElemT (P : Program) (t e : TypeId) (m bytes : Nat) : Prop where
 ht : P.underlying t = some (.slice e)
 ex : ∃ (i : TypeInfo) (z : Value), P.info? e = some i ∧ i.zero = some z ∧ i.size = m ∧ i.bytes = bytes ∧ z.cells.size = m
 pos : 0 < m
theorem ElemT.mk' {P : Program} {t e : TypeId} {z : Value} {m bytes : Nat} (ht : P.underlying t = some (.slice e)) (h : (P.info? e).map (fun i => (i.zero, i.size, i.bytes)) = some (some z, m, bytes))
 (hz : z.cells.size = m) (hp : 0 < m) : ElemT P t e m bytes := by
 obtain ⟨i, h1, h2, h3, h4⟩ := info_parts h
 exact ⟨ht, ⟨i, z, h1, h2, h3, h4, hz⟩, hp⟩
theorem ae0 {P : Program} (w : World) (base : Nat) (t ty e : TypeId) (i : TypeInfo) (size c : Nat) (ht : P.underlying t = some (.slice e)) (hi : P.info? e = some i)
 (v : Value) (n : Nat) (xs : List Value) (hown : w.ownsRow base e size v n xs) :
 (Builtin.append_ #[t, t] ty #[v, .slice none 0 c]).run P w = .ok v w := by
 rcases hown.2 with ⟨rfl, rfl⟩ | ⟨g, cap, cur, rfl, _, _, hnc, _⟩
 ·simp [Builtin.append_, run_underlying ht, sizeOf, typeInfo, hi, Builtin.lenOf, Builtin.firstCells]
 ·simp [Builtin.append_, run_underlying ht, sizeOf, typeInfo, hi, Builtin.lenOf, Builtin.firstCells, hnc, storeCells]
theorem am0 {P : Prop} (h : P := by
 cases ya with
 | none =>
  by_cases hc0 : cap = 0
  ·subst hc0; exact nilcase rfl rfl
  ·refine wpList_plain hgd fun K hK => ?_
   have hr := ae0 (P := P) w base t o.type e i m cap hE.ht hi v L.length (L.flatMap enc) hown; unfold Oper.wp execOp; simp only [ho, resolve, invoke, builtin, Sem.run_bind, Sem.run_pure, Result.andThen_ok, List.map_toArray, List.map_cons, List.map_nil, hs, hx, hr]; exact hK _ _ (key v w (by simpa [Own] using hown) (World.grownBy.refl _ _) (.inl rfl))
 | some ya =>
  refine wpList_append_own_at w hgd s x t ho base e i z m bytes hE.ht hi hz hsize hby hzs hE.pos v L.length (L.flatMap enc) hs hown ya 0 cap [] hx (by simp) (by simp) (by simp) (by simpa using hlen) (by simpa using hbytes) hbase ?_; intro v' w' h1 h2 _ h4
  exact key v' w' (by simpa using h1) h2 h4) : P := h
theorem aix {P : Prop} (h : P := by
 intro j u hu
 have hj : j < L2.length * m := by rw [← hL2]; exact (List.getElem?_eq_some_iff.1 hu).1
 have hi' : j / m < L2.length := Nat.div_lt_of_lt_mul (by rw [Nat.mul_comm]; exact hj)
 have hjm : j / m * m + j % m = j := by rw [Nat.mul_comm]; exact Nat.div_add_mod j m
 have hlt : j % m < (enc L2[j / m]).length := by rw [hm]; exact Nat.mod_lt _ hE.pos
 have h1 := aic hm L2 (j / m) hi' (j % m) (enc L2[j / m])[j % m] (List.getElem?_eq_getElem hlt)
 rw [hjm, hu] at h1
 have h2 := hcell (j / m) hi' (j % m) u (by rw [List.getElem?_eq_getElem hlt]; exact h1.symm)
 have e1 : (⟨g, off, none⟩ : Addr).add j = ⟨g, off + j / m * m + j % m, none⟩ := by
  rw [Nat.add_assoc, hjm]; unfold Addr.add; split <;> simp_all
 rw [e1]; exact h2) : P := h
theorem ak5 {P : Prop} (h : P := by
 rintro rfl rfl
 refine wpList_plain hgd fun K hK => ?_
 have hr := run_append_owned_none (P := P) w base t o.type e i m hE.ht hi v L.length (L.flatMap enc) hown
 unfold Oper.wp execOp
 simp only [ho, resolve, invoke, builtin, Sem.run_bind, Sem.run_pure, Result.andThen_ok, List.map_toArray, List.map_cons, List.map_nil, hs, hx, hr]
 exact hK _ _ (key v w (by simpa [Own] using hown) (World.grownBy.refl _ _) (.inl rfl))) : P := h
theorem aiy {P : Prop} (h : P := by
 intro v' w' h1 h2 h4
 have h1' : Own base e m enc w' v' (L ++ L2) := by unfold Own; rw [jz, List.flatMap_append]; exact h1
 refine h v' w' h1' h2 h4 ?_
 rcases h1'.cases with ⟨hv, _⟩ | ⟨g, cap, hv, _⟩
 ·exact .inl hv
 ·exact .inr ⟨g, cap, by simpa using hv⟩) : P := h
theorem aaj {α : Type} {enc : α → List Value} {m bytes base : Nat} {P : Program} {w : World} {ops : Array Oper} {rest : List Oper} {o : Oper} {a : Act} {Q : Exit → Act → World → Prop}
 (hgd : o.guard = none) (s x : Operand) (t e : TypeId) (ho : o.op = .call { callee := .builtin .append, args := #[s, x], argTypes := #[t, t] })
 (hE : ElemT P t e m bytes) (hm : ∀ x, (enc x).length = m) (hone : ∀ x, ∀ u ∈ enc x, u.oneCell' = true)
 (v : Value) (L : List α) (hs : a.eval s = v) (hown : Own base e m enc w v L)
 (y : Value) (L2 : List α) (hx : a.eval x = y) (hsrc : Slc enc m w y L2)
 (hlen : (L.length + L2.length) ≤ maxLen) (hbytes : (L.length + L2.length) * bytes ≤ 140737488355328) (hbase : base ≤ w.heap.size)
 (h : ∀ v' w', Own base e m enc w' v' (L ++ L2) → w.grownBy w' v.ownBlock → (v'.ownBlock = v.ownBlock ∨ v'.ownBlock = some w.heap.size) →
  (v' = .slice none 0 0 ∨ ∃ g cap, v' = .slice (some ⟨g, 0, none⟩) (L.length + L2.length) cap) → wpList P ops Q rest (a.put o.dst v') w') :
 wpList P ops Q (o :: rest) a w := by
 obtain ⟨i, z, hi, hz, hsize, hby, hzs⟩ := hE.ex
 have hL2 : (L2.flatMap enc).length = L2.length * m := abp hm L2
 have key : ∀ v' w', w'.ownsRow base e m v' (L.length + L2.length) (L.flatMap enc ++ L2.flatMap enc) → w.grownBy w' v.ownBlock → (v'.ownBlock = v.ownBlock ∨ v'.ownBlock = some w.heap.size) → wpList P ops Q rest (a.put o.dst v') w' := by
  exact aiy
 have nilcase : y = .slice none 0 0 → L2 = [] → wpList P ops Q (o :: rest) a w := by
  exact ak5
 rcases hsrc with ⟨ya, cap, rfl, hcap, rfl⟩ | ⟨g, off, cap, rfl, hc1, hc2, hcell⟩
 ·exact am0
 ·refine wpList_append_own_at w hgd s x t ho base e i z m bytes hE.ht hi hz hsize hby hzs hE.pos v L.length (L.flatMap enc) hs hown ⟨g, off, none⟩ L2.length cap (L2.flatMap enc) hx hL2 ?_ ?_ hlen hbytes hbase ?_
  ·exact aix
  ·intro u hu
   obtain ⟨y, _, hy⟩ := List.mem_flatMap.1 hu; exact hone y u hy
  ·intro v' w' h1 h2 _ h4
   exact key v' w' h1 h2 h4
theorem aiz {P : Prop} (h : P := by
 intro v' w' h1 h2 h3 h4
 have h1' : Own base e m enc w' v' (L ++ [y]) := by unfold Own; rw [jz, List.flatMap_append]; simpa using h1
 obtain ⟨g', cap', hv, _⟩ := h1'.shape (by simp)
 have hv' : v' = .slice (some ⟨g', 0, none⟩) (L.length + 1) cap' := by simpa using hv
 subst hv'
 exact h g' cap' w' h1' h2 (by
  rcases h4 with h4 | h4
  ·exact .inl h4.symm
  ·exact .inr (by simpa [Value.ownBlock] using h4))) : P := h
theorem ai0 {P : Prop} (h : P := by
 intro j u hu
 have e1 : (⟨g, 0, none⟩ : Addr).add j = ⟨g, j, none⟩ := by unfold Addr.add; split <;> simp_all
 rw [e1]; exact hy j u hu) : P := h
theorem af6 {α : Type} {enc : α → List Value} {m bytes base : Nat} {P : Program} {w : World} {ops : Array Oper} {rest : List Oper} {o : Oper} {a : Act} {Q : Exit → Act → World → Prop}
 (hgd : o.guard = none) (s x : Operand) (t e : TypeId) (ho : o.op = .call { callee := .builtin .append, args := #[s, x], argTypes := #[t, t] })
 (hE : ElemT P t e m bytes) (hm : ∀ x, (enc x).length = m) (hone : ∀ x, ∀ u ∈ enc x, u.oneCell' = true)
 (v : Value) (L : List α) (hs : a.eval s = v) (hown : Own base e m enc w v L)
 (g cap : Nat) (y : α) (hx : a.eval x = .slice (some ⟨g, 0, none⟩) 1 cap) (hy : ∀ j u, (enc y)[j]? = some u → w.cell? ⟨g, j, none⟩ = some u)
 (hbytes : (L.length + 1) * bytes ≤ 140737488355328) (hlen : L.length + 1 ≤ maxLen) (hbase : base ≤ w.heap.size)
 (h : ∀ g' cap' w', Own base e m enc w' (.slice (some ⟨g', 0, none⟩) (L.length + 1) cap') (L ++ [y]) → w.grownBy w' v.ownBlock → (v.ownBlock = some g' ∨ g' = w.heap.size) →
  wpList P ops Q rest (a.put o.dst (.slice (some ⟨g', 0, none⟩) (L.length + 1) cap')) w') :
 wpList P ops Q (o :: rest) a w := by
 obtain ⟨i, z, hi, hz, hsize, hby, hzs⟩ := hE.ex
 refine wpList_append_own_at w hgd s x t ho base e i z m bytes hE.ht hi hz hsize hby hzs hE.pos v L.length (L.flatMap enc) hs hown ⟨g, 0, none⟩ 1 cap (enc y) hx (by rw [hm]; omega) ?_ (hone y) hlen hbytes hbase ?_
 ·exact ai0
 ·exact aiz
structure ElemZ (P : Program) (t e : TypeId) (m bytes : Nat) (zs : List Value) : Prop where
 ht : P.underlying t = some (.slice e)
 ex : ∃ (i : TypeInfo) (z : Value), P.info? e = some i ∧ i.zero = some z ∧ i.size = m ∧ i.bytes = bytes ∧ z.cells = zs.toArray
 pos : 0 < m
 len : zs.length = m
theorem ElemZ.mk' {P : Program} {t e : TypeId} {z : Value} {m bytes : Nat} {zs : List Value} (ht : P.underlying t = some (.slice e)) (h : (P.info? e).map (fun i => (i.zero, i.size, i.bytes)) = some (some z, m, bytes))
 (hz : z.cells = zs.toArray) (hp : 0 < m) (hl : zs.length = m) : ElemZ P t e m bytes zs := by
 obtain ⟨i, h1, h2, h3, h4⟩ := info_parts h
 exact ⟨ht, ⟨i, z, h1, h2, h3, h4, hz⟩, hp, hl⟩
theorem ElemZ.toT {P : Program} {t e : TypeId} {m bytes : Nat} {zs : List Value} (h : ElemZ P t e m bytes zs) : ElemT P t e m bytes := by
 obtain ⟨ht, ⟨i, z, h1, h2, h3, h4, h5⟩, hp, hl⟩ := h
 exact ⟨ht, ⟨i, z, h1, h2, h3, h4, by rw [h5]; simpa using hl⟩, hp⟩
theorem ady {α : Type} {enc : α → List Value} {m : Nat} (hm : ∀ x, (enc x).length = m) (hp : 0 < m) (x0 : α) : ∀ (n j : Nat), j < n * m → ((List.replicate n x0).flatMap enc)[j]? = (enc x0)[j % m]?
 | 0, j, h => by simp at h
 | n + 1, j, h => by
  simp only [List.replicate_succ, List.flatMap_cons]; by_cases hj : j < m
  ·rw [List.getElem?_append_left (by rw [hm]; exact hj), Nat.mod_eq_of_lt hj]
  ·rw [List.getElem?_append_right (by rw [hm]; omega), hm, ady hm hp x0 n (j - m) (by rw [Nat.add_mul] at h; omega)]
   rw [← Nat.mod_eq_sub_mod (by omega)]
theorem asp {α : Type} {enc : α → List Value} {m : Nat} (hm : ∀ x, (enc x).length = m) (hp : 0 < m) (x0 : α) (n : Nat) :
 (madeCells (enc x0).toArray (n * m)).toList = (List.replicate n x0).flatMap enc := by
 apply List.ext_getElem?
 intro j
 by_cases hj : j < n * m
 ·rw [ady hm hp x0 n j hj]
  have hlt : j % m < (enc x0).length := by rw [hm]; exact Nat.mod_lt _ hp
  have hlt' : j % (enc x0).length < (enc x0).length := Nat.mod_lt _ (by omega); simp [madeCells, hj, hm, List.getElem?_eq_getElem hlt]
 ·rw [List.getElem?_eq_none (by simp [size_madeCells]; omega), List.getElem?_eq_none (by rw [abp hm]; simp; omega)]
theorem asq {α : Type} {enc : α → List Value} {m bytes base : Nat} {P : Program} {w : World} {ops : Array Oper} {rest : List Oper} {o : Oper} {a : Act} {Q : Exit → Act → World → Prop}
 (hgd : o.guard = none) (l c : Operand) (t e : TypeId) (hop : o.op = Op.makeSlice t l c) (x0 : α) (hE : ElemZ P t e m bytes (enc x0)) (hm : ∀ x, (enc x).length = m)
 (kl kc : IntKind) (N C : Int) (n : Nat) (hl : a.eval l = .int kl N) (hc : a.eval c = .int kc C) (hL : N = (n : Int)) (hC : C = (n : Int)) (b2 : bytes * n ≤ 281474976710656) (b3 : n ≤ maxLen) (b4 : base ≤ w.heap.size)
 (h : ∀ w', Own base e m enc w' (.slice (some ⟨w.heap.size, 0, none⟩) n n) (List.replicate n x0) → w.grownBy w' none → wpList P ops Q rest (a.put o.dst (.slice (some ⟨w.heap.size, 0, none⟩) n n)) w') :
 wpList P ops Q (o :: rest) a w := by
 obtain ⟨i, z, hi, hz, hsize, hby, hzs⟩ := hE.ex
 refine wpList_make_full w hgd l c t hop base e i z m hE.ht hi hz hsize kl kc N C n hl hc hL hC (by rw [hby]; exact b2) b3 b4 ?_
 intro w' h1 h2
 refine h w' ?_ h2
 unfold Own
 rw [List.length_replicate, ← asp hm hE.pos x0 n, ← hzs]
 exact h1
theorem Own.made0 {α : Type} {enc : α → List Value} {m : Nat} (w : World) (e : TypeId) {base : Nat} (hb : base ≤ w.heap.size) : Own base e m enc (w.alloc (.cells #[] e)) (.slice (some ⟨w.heap.size, 0, none⟩) 0 0) ([] : List α) :=
 ⟨by simp, .inr ⟨w.heap.size, 0, #[], rfl, hb, heap_alloc_new w _, by simp, by simp, by simp, by simp⟩⟩
theorem Slc.part {α : Type} {enc : α → List Value} {m : Nat} {w : World} {a : Option Addr} {n cap : Nat} {L : List α} (h : Slc enc m w (.slice a n cap) L) {l u : Nat} (hl : l ≤ u) (hu : u ≤ L.length) :
 Slc enc m w (sliced a l u cap m) ((L.take u).drop l) := by
 rcases h with ⟨a', cap', hv, hc, rfl⟩ | ⟨g, off, cap', hv, h1, h2, h3⟩
 ·simp only [Value.slice.injEq] at hv
  obtain ⟨rfl, rfl, rfl⟩ := hv; simp only [List.length_nil] at hu; obtain rfl : u = 0 := by omega
  obtain rfl : l = 0 := by omega
  refine .inl ⟨_, cap - 0, rfl, by omega, by simp⟩
 ·simp only [Value.slice.injEq] at hv
  obtain ⟨rfl, rfl, rfl⟩ := hv; unfold sliced; have hlen : ((L.take u).drop l).length = u - l := by rw [List.length_drop, List.length_take]; omega
  by_cases hcl : cap = l
  ·have hul : u = l := by omega
   rw [qw hcl]; refine .inl ⟨_, cap - l, by rw [hul, Nat.sub_self], by omega, List.eq_nil_of_length_eq_zero (by rw [hlen]; omega)⟩
  ·rw [qk hcl]
   refine .inr ⟨g, off + l * m, cap - l, ?_, by rw [hlen]; omega, by omega, fun i hi j x hx => ?_⟩
   ·rw [hlen]
    simp only [Option.map_some]; congr 2; unfold Addr.add; split <;> simp_all
   ·rw [hlen] at hi
    have e : ((L.take u).drop l)[i]'(by rw [hlen]; exact hi) = L[l + i]'(by omega) := by rw [List.getElem_drop, List.getElem_take]
    rw [e] at hx; have := h3 (l + i) (by omega) j x hx; rw [Nat.add_mul] at this; rw [show off + l * m + i * m + j = off + (l * m + i * m) + j by omega]; exact this
theorem Own.shape3 {α : Type} {enc : α → List Value} {m base : Nat} {e : TypeId} {w : World} {v : Value} {L : List α} (h : Own base e m enc w v L) : ∃ a n c, v = .slice a n c := by
 rcases h.cases with ⟨rfl, _⟩ | ⟨g, cap, rfl, _⟩
 ·exact ⟨_, _, _, rfl⟩
 ·exact ⟨_, _, _, rfl⟩
theorem Slc.shape3 {α : Type} {enc : α → List Value} {m : Nat} {w : World} {v : Value} {L : List α} (h : Slc enc m w v L) : ∃ a n c, v = .slice a n c := by
 obtain ⟨a, c, rfl, _⟩ := h.len; exact ⟨_, _, _, rfl⟩
section
variable {α : Type} {enc : α → List Value} {m bytes : Nat} {P : Program} {w : World} {ops : Array Oper} {rest : List Oper} {o : Oper} {a : Act} {Q : Exit → Act → World → Prop} {v : Value} {L : List α} {t e : TypeId} {x y z : Operand}
theorem aie (hE : ElemT P t e m bytes) : (sizeOf e).run P w = .ok m w := by
 obtain ⟨i, z, hi, hz, hsize, hby, hzs⟩ := hE.ex
 simp [sizeOf, typeInfo, hi, hsize]
theorem am1 (hgd : o.guard = none) (ho : o.op = .slice t x none (some y) none) (hE : ElemT P t e m bytes) (hx : a.eval x = v) (hS : Slc enc m w v L) {k : IntKind} {u : Nat} {U : Int} (hy : a.eval y = .int k U) (hU : U = (u : Nat)) (hu : u ≤ L.length)
 (h : ∀ v', Slc enc m w v' (L.take u) → wpList P ops Q rest (a.put o.dst v') w) : wpList P ops Q (o :: rest) a w := by
 obtain ⟨A, cap, rfl, hm⟩ := hS.len
 have hcap : L.length ≤ cap := by
  rcases hS with ⟨_, _, hv, _, h0⟩ | ⟨g, off, cap', hv, h1, h2, _⟩
  ·rw [h0]; simp
  ·simp only [Value.slice.injEq] at hv; obtain ⟨_, _, rfl⟩ := hv; exact h1
 have hp := h _ (by have := hS.part (Nat.zero_le u) hu; rwa [List.drop_zero] at this)
 refine wpList_plain hgd fun K' hK' => ?_
 unfold Oper.wp
 subst hU
 have hel : P.elem t = e := by unfold Program.elem; rw [hE.ht]
 have hr := run_slice_h (P := P) (w := w) t A L.length cap (by rw [hel]; exact hE.ht) k (u : Int) (by omega) (by omega)
 rw [hel, aie hE] at hr
 simp only [Result.andThen, Int.toNat_natCast] at hr
 simp [execOp, ho, hx, hy, Result.andThen, run_sliceAt_slice (P := P) (w := w) t _ _ _ _ (by rw [hel]; exact hE.ht), hr]
 exact hK' _ _ hp
end
theorem aaz {α β : Type} {b b' e e' m m' : Nat} {enc : α → List Value} {enc' : β → List Value} {w : World} {v v' : Value} {L : List α} {L' : List β} (h : Own b e m enc w v L) (h' : Own b' e' m' enc' w v' L') (hne : e ≠ e') {i : Nat} (hi : v.ownBlock = some i) (hj : v'.ownBlock = some i) : False := by
 rcases h.2 with ⟨rfl, _⟩ | ⟨g, cap, cur, rfl, hb, hg, _⟩
 ·simp [Value.ownBlock] at hi
 ·rcases h'.2 with ⟨rfl, _⟩ | ⟨g', cap', cur', rfl, hb', hg', _⟩
  ·simp [Value.ownBlock] at hj
  ·simp only [Value.ownBlock, jy] at hi hj
   subst hi; subst hj; rw [hg] at hg'; simp only [jy, Obj.cells.injEq] at hg'; exact hne hg'.2.1
theorem Own.low {α : Type} {base e m : Nat} {enc : α → List Value} {w : World} {v : Value} {L : List α} (h : Own base e m enc w v L) (b i : Nat) (u : Value) (hb : b < base) : Own base e m enc (w.setCell ⟨b, i, none⟩ u) v L :=
 h.other _ _ (fun j hj e => by have h1 := h.ge hj; dsimp only at e; omega)
theorem abr {α : Type} {m : Nat} {enc : α → List Value} {base : Nat} {e : TypeId} {w : World} {a : Option Addr} {n c : Nat} {R : List α} (h : Own base e m enc w (.slice a n c) R) {k : Nat} (hk : k < R.length) : ∃ g, a = some ⟨g, 0, none⟩ ∧ base ≤ g := by
 rcases h.cases with ⟨_, h2⟩ | ⟨g, cap, h1, h2, _⟩
 ·rw [h2] at hk; simp at hk
 ·simp only [Value.slice.injEq] at h1; exact ⟨g, h1.1, h2⟩
def Big (n : Nat) : Prop := n ≤ 70368744177664
theorem Big.le {n : Nat} (h : Big n) : n ≤ 70368744177664 := h
theorem Big.mono {n m : Nat} (h : Big n) (k : m ≤ n) : Big m := jk k h
def aax (c : UInt8) : List Value := [.int .u8 c.toNat]
theorem aaa (c : UInt8) : (aax c).length = 1 := rfl
theorem aay (c : UInt8) : ∀ u ∈ aax c, u.oneCell' = true := by simp [aax, Value.oneCell']
theorem ai1 : (prog.info? 5).map (fun i => (i.zero, i.size, i.bytes)) = some (some (.int .u8 0), 1, 1) := by kernel_rfl
theorem elem_byZ : ElemZ prog 189 5 1 1 (aax 0) := ElemZ.mk' underlying189 ai1 rfl (by omega) rfl
theorem abx : ElemT prog 189 5 1 1 := elem_byZ.toT
theorem ay0 (s : ByteArray) : s.data.toList.flatMap aax = Lib.strCells s := by
 unfold Lib.strCells aax
 induction s.data.toList with
 | nil => rfl
 | cons x xs ih => rw [List.flatMap_cons, List.map_cons, ih]; rfl
section
variable {P : Program} {w : World} {ops : Array Oper} {rest : List Oper} {o : Oper} {a : Act} {Q : Exit → Act → World → Prop}
theorem aon {base : Nat} (hgd : o.guard = none) (sl x : Operand) (ho : o.op = .call { callee := .builtin .append, args := #[sl, x], argTypes := #[189, 9] })
 (v : Value) (L : List UInt8) (hs : a.eval sl = v) (hown : Own base 5 1 aax w v L) (s : ByteArray) (hx : a.eval x = .string s)
 (h63 : L.length + s.size ≤ 140737488355328) (hbase : base ≤ w.heap.size)
 (h : ∀ v' w', Own base 5 1 aax w' v' (L ++ s.data.toList) → w.grownBy w' v.ownBlock → wpList prog ops Q rest (a.put o.dst v') w') : wpList prog ops Q (o :: rest) a w := by
 obtain ⟨i, h1, h2, h3, h4⟩ := info_parts ai1
 refine Lib.wpList_append_own_string w hgd sl x 189 9 ho base 5 i underlying189 underlying9 h1 h2 h3 h4 v L.length (L.flatMap aax) hs hown s hx (by unfold maxLen; omega) h63 hbase ?_
 intro v' w' q1 q2 _
 refine h v' w' ?_ q2
 unfold Own
 rw [jz, acj, List.flatMap_append, ay0]
 exact q1
theorem aq3 {base : Nat} (hgd : o.guard = none) (l c : Operand) (ho : o.op = Op.makeSlice 189 l c) (kl kc : IntKind) (C : Int) (n : Nat) (hl : a.eval l = .int kl 0) (hc : a.eval c = .int kc C) (hC : C = (n : Int))
 (hn : n ≤ 140737488355328) (hbase : base ≤ w.heap.size)
 (h : ∀ w', Own base 5 1 aax w' (.slice (some ⟨w.heap.size, 0, none⟩) 0 n) ([] : List UInt8) → w.grownBy w' none → wpList prog ops Q rest (a.put o.dst (.slice (some ⟨w.heap.size, 0, none⟩) 0 n)) w') : wpList prog ops Q (o :: rest) a w := by
 obtain ⟨i, h1, h2, h3, h4⟩ := info_parts ai1
 exact wpList_make_own w hgd l c 189 ho base 5 i _ 1 underlying189 h1 h2 h3 kl kc C n hl hc hC (by rw [h4]; omega) (by unfold maxLen; omega) hbase (fun w' q1 q2 => h w' q1 q2)
end
theorem Slc.other {α : Type} {enc : α → List Value} {m : Nat} {w : World} {v : Value} {L : List α} (h : Slc enc m w v L) (p : Addr) (u : Value) (hne : ∀ k, v.ownBlock = some k → k ≠ p.block) : Slc enc m (w.setCell p u) v L :=
 h.upd (Upd.set (S := fun k => k = p.block) rfl u) (fun k hk e => hne k hk e)
theorem aap {α : Type} {enc : α → List Value} {m base : Nat} {e : TypeId} {w : World} {v : Value} {L : List α} (h : Own base e m enc w v L) : ∃ a c, v = .slice a L.length c := by
 rcases h.cases with ⟨rfl, rfl⟩ | ⟨g, cap, rfl, _⟩
 ·exact ⟨none, 0, rfl⟩
 ·exact ⟨_, _, rfl⟩
theorem Own.byte1 (w : World) (c : UInt8) (x : Int) (hx : x = (c.toNat : Int)) {base : Nat} (hb : base ≤ w.heap.size) : Own base 5 1 aax (w.alloc (.cells #[.int .u8 x] 5)) (.slice (some ⟨w.heap.size, 0, none⟩) 1 1) [c] :=
 ⟨by simp [aax], .inr ⟨w.heap.size, 1, #[.int .u8 x], rfl, hb, heap_alloc_new w _, by simp, by unfold maxLen; omega, by simp, by subst hx; simp [aax]⟩⟩
theorem aif (w : World) (v : Value) (L : List UInt8) (h : Slc aax 1 w v L) : (convert 189 9 v).run prog w = .ok (.string ⟨L.toArray⟩) w := by
 rcases h with ⟨a, cap, rfl, hcap, rfl⟩ | ⟨g, off, cap, rfl, hc1, hc2, hcell⟩
 ·rw [run_convert_bytes_string w _ _ _ _ _ _ underlying189 underlying5 underlying9]
  cases a with
  | none => simp [Conv.bytesToString]; rfl
  | some a =>
   rw [run_bytesToString (P := prog) w a 0 cap [] (by
    have := run_loadCells_list (P := prog) w a [] (fun j v hj => by simp at hj)
    simpa using this)]
   rfl
 ·refine run_convert_bytes_back w _ _ _ _ cap L underlying189 underlying5 underlying9 (fun j hj => ?_)
  have h1 := hcell j hj 0 (.int .u8 L[j].toNat) rfl; have e : (⟨g, off, none⟩ : Addr).add j = ⟨g, off + j, none⟩ := by unfold Addr.add; split <;> simp_all
  rw [e]; simpa using h1
end Go.Proofs.YtgnaifhmcllnlaaGreatDoor
