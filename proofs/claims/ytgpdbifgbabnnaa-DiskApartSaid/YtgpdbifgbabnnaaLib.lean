/- General lemmas on worlds for the proofs of this seat: what a call may have changed ('Upd'), slices of records ('Slc'), blocks known whole. Conditions: none. -/
import Derived.WalkKit
import Derived.WalkSpells
import Derived.WalkLawsBesides
import Derived.Lib.Hide
import Derived.Deep.QuietTactic
import Derived.BigQuiet
namespace Go.Proofs.Ytgpdbifgbabnnaa
open Go.RowKit

/-- What a call that owns the blocks S may have changed: blocks outside S that were there are as they were. -/
structure Upd (S : Nat → Prop) (w w' : World) : Prop where
  os : w'.os = w.os
  tape : w'.tape = w.tape
  output : w'.output = w.output
  size : w.heap.size ≤ w'.heap.size
  block : ∀ k, k < w.heap.size → ¬ S k → w'.heap[k]? = w.heap[k]?

theorem Upd.refl (S : Nat → Prop) (w : World) : Upd S w w := ⟨rfl, rfl, rfl, Nat.le_refl _, fun _ _ _ => rfl⟩
theorem Upd.trans {S T : Nat → Prop} {a b c : World} (h : Upd S a b) (k : Upd T b c) (hT : ∀ i, T i → i < a.heap.size → S i) : Upd S a c :=
  ⟨k.os.trans h.os, k.tape.trans h.tape, k.output.trans h.output, Nat.le_trans h.size k.size, fun i hi hs =>
    (k.block i (Nat.lt_of_lt_of_le hi h.size) (fun ht => hs (hT i ht hi))).trans (h.block i hi hs)⟩
theorem Upd.mono {S T : Nat → Prop} {a b : World} (h : Upd S a b) (hT : ∀ i, S i → i < a.heap.size → T i) : Upd T a b :=
  ⟨h.os, h.tape, h.output, h.size, fun i hi hs => h.block i hi (fun ht => hs (hT i ht hi))⟩
theorem Upd.of_below {S : Nat → Prop} {w w' : World} (h : Below w.heap.size w w') : Upd S w w' :=
  ⟨h.os, h.tape, h.output, h.size, fun k hk _ => h.block k hk⟩
theorem Upd.below {S : Nat → Prop} {w w' : World} {B : Nat} (h : Upd S w w') (hB : B ≤ w.heap.size) (hS : ∀ k, S k → B ≤ k) : Below B w w' :=
  ⟨h.os, h.tape, h.output, h.size, fun k hk => h.block k (by omega) (fun hs => by have := hS k hs; omega)⟩
theorem Upd.set {S : Nat → Prop} {w : World} {p : Addr} (hp : S p.block) (u : Value) : Upd S w (w.setCell p u) :=
  ⟨rfl, rfl, rfl, by simp, fun k _ hs => Below.heap_setCell _ _ _ _ (fun e => hs (e ▸ hp))⟩
theorem Upd.grown {S : Nat → Prop} {w w' : World} {row : Option Nat} (hg : w.grownBy w' row) (hr : ∀ k, row = some k → S k) : Upd S w w' :=
  ⟨hg.os, hg.tape, hg.output, hg.size, fun k hk hs => hg.block k hk (fun e => hs (hr k e.symm))⟩
theorem Upd.drew {S : Nat → Prop} {a w : World} (h : Upd S a w) : Upd S a w.drew := ⟨h.os, h.tape, h.output, h.size, h.block⟩
theorem Upd.cell {S : Nat → Prop} {w w' : World} (h : Upd S w w') {p : Addr} (hp : p.block < w.heap.size) (hs : ¬ S p.block) : w'.cell? p = w.cell? p :=
  World.cell?_of_block (w := w) (h.block p.block hp hs)

/-- A block that is known whole, and what its cells are. -/
def Blk (w : World) (b : Nat) (cs : List Value) : Prop := ∃ T, w.heap[b]? = some (.cells cs.toArray T (0, 0))

theorem Blk.lt {w : World} {b : Nat} {cs : List Value} (h : Blk w b cs) : b < w.heap.size := by
  obtain ⟨T, h⟩ := h; exact (Array.getElem?_eq_some_iff.1 h).1
theorem Blk.cell {w : World} {b : Nat} {cs : List Value} (h : Blk w b cs) (i : Nat) : w.cell? ⟨b, i, none⟩ = cs[i]? := by
  obtain ⟨T, h⟩ := h; simp [World.cell?, h]
theorem Blk.frozen {w : World} {b : Nat} {cs : List Value} (h : Blk w b cs) (i : Nat) : w.frozen? ⟨b, i, none⟩ = false := by
  obtain ⟨T, h⟩ := h; simp [World.frozen?, h]
theorem Blk.keep {w w' : World} {b : Nat} {cs : List Value} (h : Blk w b cs) (hk : w'.heap[b]? = w.heap[b]?) : Blk w' b cs := by
  obtain ⟨T, h⟩ := h; exact ⟨T, hk.trans h⟩
theorem Blk.upd {S : Nat → Prop} {w w' : World} {b : Nat} {cs : List Value} (h : Blk w b cs) (hu : Upd S w w') (hs : ¬ S b) : Blk w' b cs :=
  h.keep (hu.block b h.lt hs)
theorem Blk.below {w w' : World} {b B : Nat} {cs : List Value} (h : Blk w b cs) (hu : Below B w w') (hs : b < B) : Blk w' b cs :=
  h.keep (hu.block b hs)
theorem Blk.pure {w w' : World} {b : Nat} {cs : List Value} (h : Blk w b cs) (hu : Below w.heap.size w w') : Blk w' b cs :=
  h.keep (hu.block b h.lt)
theorem Blk.set {w : World} {b : Nat} {cs : List Value} (h : Blk w b cs) (i : Nat) (v : Value) : Blk (w.setCell ⟨b, i, none⟩ v) b (cs.set i v) := by
  obtain ⟨T, h⟩ := h
  refine ⟨T, ?_⟩
  show (w.heap.modify b _)[b]? = _
  rw [Array.getElem?_modify, if_pos rfl, h]
  simp
theorem Blk.other {w : World} {b : Nat} {cs : List Value} (h : Blk w b cs) (p : Addr) (v : Value) (hne : b ≠ p.block) : Blk (w.setCell p v) b cs :=
  h.keep (Below.heap_setCell _ _ _ _ hne)
theorem Blk.alloc {w : World} {b : Nat} {cs : List Value} (h : Blk w b cs) (o : Obj) : Blk (w.alloc o) b cs :=
  h.keep (Below.heap_alloc _ _ _ h.lt)
theorem Blk.new (w : World) (cs : List Value) (T : TypeId) : Blk (w.alloc (.cells cs.toArray T)) w.heap.size cs :=
  ⟨T, heap_alloc_new w _⟩
theorem Blk.drew {w : World} {b : Nat} {cs : List Value} (h : Blk w b cs) : Blk w.drew b cs := h

/-- The value v is a slice that reads as the rows of L, each row m cells long, by enc. -/
def Slc {α : Type} (enc : α → List Value) (m : Nat) (w : World) (v : Value) (L : List α) : Prop :=
  (∃ a cap, v = .slice a 0 cap ∧ cap ≤ maxLen ∧ L = []) ∨
  ∃ g off cap, v = .slice (some ⟨g, off, none⟩) L.length cap ∧ L.length ≤ cap ∧ cap ≤ maxLen ∧
    ∀ i, (h : i < L.length) → ∀ j u, (enc L[i])[j]? = some u → w.cell? ⟨g, off + i * m + j, none⟩ = some u

theorem Slc.keep {α : Type} {enc : α → List Value} {m : Nat} {w w' : World} {v : Value} {L : List α} (h : Slc enc m w v L)
    (hk : ∀ p : Addr, p.block < w.heap.size → some p.block = v.ownBlock → w'.cell? p = w.cell? p) : Slc enc m w' v L := by
  rcases h with h | ⟨g, off, cap, hv, h1, h2, h3⟩
  · exact .inl h
  · refine .inr ⟨g, off, cap, hv, h1, h2, fun i hi j u hu => ?_⟩
    have := h3 i hi j u hu
    rw [hk _ (World.block_lt_of_cell? w _ this) (by rw [hv]; rfl)]
    exact this
theorem Slc.pure {α : Type} {enc : α → List Value} {m : Nat} {w w' : World} {v : Value} {L : List α} (h : Slc enc m w v L)
    (hb : Below w.heap.size w w') : Slc enc m w' v L := h.keep fun _ hp _ => hb.cell hp
theorem Slc.upd {α : Type} {enc : α → List Value} {m : Nat} {S : Nat → Prop} {w w' : World} {v : Value} {L : List α} (h : Slc enc m w v L)
    (hb : Upd S w w') (hS : ∀ k, v.ownBlock = some k → ¬ S k) : Slc enc m w' v L := h.keep fun _ hp e => hb.cell hp (hS _ e.symm)
theorem Slc.nil {α : Type} (enc : α → List Value) (m : Nat) (w : World) : Slc enc m w (.slice none 0 0) ([] : List α) := .inl ⟨none, 0, rfl, by simp, rfl⟩

/-- A cell of a slice that is written out. -/
theorem Slc.get {α : Type} {enc : α → List Value} {m : Nat} {w : World} {g off n cap : Nat} {L : List α} (h : Slc enc m w (.slice (some ⟨g, off, none⟩) n cap) L) (i : Nat) (hi : i < L.length) (j : Nat) (u : Value)
    (hu : (enc L[i])[j]? = some u) : w.cell? ⟨g, off + i * m + j, none⟩ = some u := by
  rcases h with ⟨_, _, _, _, rfl⟩ | ⟨g', off', cap', hv, _, _, hc⟩
  · simp at hi
  · simp only [Value.slice.injEq, Option.some.injEq, Addr.mk.injEq, and_true] at hv
    obtain ⟨⟨rfl, rfl⟩, _, _⟩ := hv
    exact hc i hi j u hu

/-- The length word of a slice value. -/
theorem Slc.len {α : Type} {enc : α → List Value} {m : Nat} {w : World} {v : Value} {L : List α} (h : Slc enc m w v L) :
    ∃ a cap, v = .slice a L.length cap ∧ L.length ≤ maxLen := by
  rcases h with ⟨a, cap, rfl, hc, rfl⟩ | ⟨g, off, cap, hv, h1, h2, _⟩
  · exact ⟨a, cap, rfl, by simp⟩
  · exact ⟨_, cap, hv, by omega⟩

/-- A row of a slice that the call owns: its cells. -/
theorem flat_get {α : Type} {enc : α → List Value} {m : Nat} (hm : ∀ x, (enc x).length = m) :
    ∀ (L : List α) (i : Nat) (h : i < L.length) (j : Nat) (u : Value), (enc L[i])[j]? = some u → (L.flatMap enc)[i * m + j]? = some u
  | [], i, h, _, _, _ => absurd h (by simp)
  | x :: L, 0, _, j, u, hu => by
    have hj : j < (enc x).length := (List.getElem?_eq_some_iff.1 hu).1
    simp only [List.flatMap_cons, Nat.zero_mul, Nat.zero_add]
    rw [List.getElem?_append_left hj]
    exact hu
  | x :: L, i + 1, h, j, u, hu => by
    simp only [List.flatMap_cons]
    rw [List.getElem?_append_right (by rw [hm, Nat.add_mul]; omega)]
    have := flat_get hm L i (by simpa using h) j u hu
    rw [hm]
    rw [show (i + 1) * m + j - m = i * m + j by rw [Nat.add_mul]; omega]
    exact this

theorem flat_len {α : Type} {enc : α → List Value} {m : Nat} (hm : ∀ x, (enc x).length = m) (L : List α) : (L.flatMap enc).length = L.length * m := by
  induction L with
  | nil => simp
  | cons x L ih => simp [hm, ih, Nat.add_mul]; omega

/-- A slice that the call owns reads as its rows. -/
theorem Slc.own {α : Type} {enc : α → List Value} {m : Nat} (hm : ∀ x, (enc x).length = m) {w : World} {base : Nat} {e : TypeId} {v : Value} {n : Nat} {L : List α}
    (h : w.ownsRow base e m v n (L.flatMap enc)) (hn : n = L.length) : Slc enc m w v L := by
  subst hn
  rcases h.2 with ⟨hv, h0⟩ | ⟨g, cap, cur, hv, hb, hg, h1, h2, h3, h4⟩
  · exact .inl ⟨none, 0, hv, by simp, List.eq_nil_of_length_eq_zero h0⟩
  · refine .inr ⟨g, 0, cap, hv, h1, h2, fun i hi j u hu => ?_⟩
    have := h.cells (g := g) (by rw [hv]; rfl) (i * m + j) u (flat_get hm L i hi j u hu)
    have e : (⟨g, 0, none⟩ : Addr).add (i * m + j) = ⟨g, 0 + i * m + j, none⟩ := by
      unfold Addr.add; split <;> simp_all
    rw [← e]; exact this

/-- One cell that was just laid. -/
theorem cells_new (w : World) (cs : List Value) (T : TypeId) : ∀ j u, cs[j]? = some u → (w.alloc (.cells cs.toArray T)).cell? ((⟨w.heap.size, 0, none⟩ : Addr).add j) = some u := by
  intro j u hu
  have e : (⟨w.heap.size, 0, none⟩ : Addr).add j = ⟨w.heap.size, j, none⟩ := by unfold Addr.add; split <;> simp_all
  rw [e, (Blk.new w cs T).cell]
  exact hu

theorem World.alike_below {w w' : World} (h : w'.heap = w.heap) (ho : w'.os = w.os) (ht : w'.tape = w.tape) (hp : w'.output = w.output) (B : Nat) : Below B w w' :=
  ⟨ho, ht, hp, by rw [h]; exact Nat.le_refl _, fun k _ => by rw [h]⟩

theorem toList_len (s : ByteArray) : s.toList.length = s.size := by rw [ByteArray.toList_eq]; exact Array.length_toList
theorem empty_yes {s : ByteArray} (h : s.size = 0) : s.toList.isEmpty = true := by
  rw [List.isEmpty_iff]; exact List.eq_nil_of_length_eq_zero (by rw [toList_len]; exact h)
theorem empty_no {s : ByteArray} (h : 0 < s.size) : s.toList.isEmpty = false := by
  rw [Bool.eq_false_iff]; intro e; rw [List.isEmpty_iff] at e; have := toList_len s; rw [e] at this; simp at this; omega
theorem toList_inj {s t : ByteArray} (h : s.toList = t.toList) : s = t := by
  rw [ByteArray.toList_eq, ByteArray.toList_eq] at h
  cases s; cases t; congr 1; exact Array.toList_inj.1 h
theorem same_iff (s t : ByteArray) : (s.toList == t.toList) = true ↔ s = t := by
  rw [beq_iff_eq]; exact ⟨toList_inj, fun h => by rw [h]⟩

theorem findP_no {α : Type} {p : α → Bool} {L : List α} {k : Nat} (hk : k < L.length) (h : (L.take k).findIdx? p = none) (hq : p L[k] = false) :
    (L.take (k + 1)).findIdx? p = none := by
  rw [List.take_succ_eq_append_getElem hk, List.findIdx?_append, h]
  simp [List.findIdx?_cons, hq]

theorem findP_yes {α : Type} {p : α → Bool} {L : List α} {k : Nat} (hk : k < L.length) (h : (L.take k).findIdx? p = none) (hq : p L[k] = true) :
    L.findIdx? p = some k := by
  rw [List.findIdx?_eq_some_iff_getElem]
  refine ⟨hk, hq, fun j hj => ?_⟩
  rw [List.findIdx?_eq_none_iff] at h
  have := h (L[j]'(by omega)) (by
    rw [List.mem_take_iff_getElem]
    exact ⟨j, by omega, rfl⟩)
  simpa using this

end Go.Proofs.Ytgpdbifgbabnnaa
