/- Slices of bools that came in. Conditions: none. (Texts joined.) -/
import Derived.WalkKit
import Derived.WalkSpells
import Derived.WalkLawsBesides
import Derived.Lib.Hide
import Derived.Deep.QuietTactic
import Derived.BigQuiet
import Derived.Maps.AppendAt
import Derived.Deep.RegionHeld3
import Derived.Maps.OwnSet
import Derived.ProofKit
import Derived.OpenShut
import Derived.Deep.Slices
set_option linter.unusedSimpArgs false
set_option linter.unusedVariables false
namespace Go.Proofs.YtlonokcaddpniaaGreatDoor
open Go.RowKit
/-- What a call that owns the blocks S may have changed: blocks outside S that were there are as they were. -/
structure Upd (S : Nat → Prop) (w w' : World) : Prop where
  os : w'.os = w.os
  tape : w'.tape = w.tape
  output : w'.output = w.output
  size : w.heap.size ≤ w'.heap.size
  block : ∀ k, k < w.heap.size → ¬ S k → w'.heap[k]? = w.heap[k]?
theorem Upd.refl (S : Nat → Prop) (w : World) : Upd S w w := ⟨rfl, rfl, rfl, Nat.le_refl _, fun _ _ _ => rfl⟩
theorem Upd.trans {S T : Nat → Prop} {a b c : World} (h : Upd S a b) (k : Upd T b c) (hT : ∀ i, T i → i < a.heap.size → S i) : Upd S a c :=
  ⟨k.os.trans h.os, k.tape.trans h.tape, k.output.trans h.output, Nat.le_trans h.size k.size, fun i hi hs =>
    (k.block i (Nat.lt_of_lt_of_le hi h.size) (fun ht => hs (hT i ht hi))).trans (h.block i hi hs)⟩
theorem Upd.mono {S T : Nat → Prop} {a b : World} (h : Upd S a b) (hT : ∀ i, S i → i < a.heap.size → T i) : Upd T a b :=
  ⟨h.os, h.tape, h.output, h.size, fun i hi hs => h.block i hi (fun ht => hs (hT i ht hi))⟩
theorem Upd.of_below {S : Nat → Prop} {w w' : World} (h : Below w.heap.size w w') : Upd S w w' :=
  ⟨h.os, h.tape, h.output, h.size, fun k hk _ => h.block k hk⟩
theorem Upd.below {S : Nat → Prop} {w w' : World} {B : Nat} (h : Upd S w w') (hB : B ≤ w.heap.size) (hS : ∀ k, S k → B ≤ k) : Below B w w' :=
  ⟨h.os, h.tape, h.output, h.size, fun k hk => h.block k (by omega) (fun hs => by have := hS k hs; omega)⟩
theorem Upd.set {S : Nat → Prop} {w : World} {p : Addr} (hp : S p.block) (u : Value) : Upd S w (w.setCell p u) :=
  ⟨rfl, rfl, rfl, by simp, fun k _ hs => Below.heap_setCell _ _ _ _ (fun e => hs (e ▸ hp))⟩
theorem Upd.grown {S : Nat → Prop} {w w' : World} {row : Option Nat} (hg : w.grownBy w' row) (hr : ∀ k, row = some k → S k) : Upd S w w' :=
  ⟨hg.os, hg.tape, hg.output, hg.size, fun k hk hs => hg.block k hk (fun e => hs (hr k e.symm))⟩
theorem Upd.drew {S : Nat → Prop} {a w : World} (h : Upd S a w) : Upd S a w.drew := ⟨h.os, h.tape, h.output, h.size, h.block⟩
theorem Upd.cell {S : Nat → Prop} {w w' : World} (h : Upd S w w') {p : Addr} (hp : p.block < w.heap.size) (hs : ¬ S p.block) : w'.cell? p = w.cell? p :=
  World.cell?_of_block (w := w) (h.block p.block hp hs)
/-- A block that is known whole, and what its cells are. -/
def Blk (w : World) (b : Nat) (cs : List Value) : Prop := ∃ T, w.heap[b]? = some (.cells cs.toArray T (0, 0))
theorem Blk.lt {w : World} {b : Nat} {cs : List Value} (h : Blk w b cs) : b < w.heap.size := by
  obtain ⟨T, h⟩ := h; exact (Array.getElem?_eq_some_iff.1 h).1
theorem Blk.cell {w : World} {b : Nat} {cs : List Value} (h : Blk w b cs) (i : Nat) : w.cell? ⟨b, i, none⟩ = cs[i]? := by
  obtain ⟨T, h⟩ := h; simp [World.cell?, h]
theorem Blk.frozen {w : World} {b : Nat} {cs : List Value} (h : Blk w b cs) (i : Nat) : w.frozen? ⟨b, i, none⟩ = false := by
  obtain ⟨T, h⟩ := h; simp [World.frozen?, h]
theorem Blk.keep {w w' : World} {b : Nat} {cs : List Value} (h : Blk w b cs) (hk : w'.heap[b]? = w.heap[b]?) : Blk w' b cs := by
  obtain ⟨T, h⟩ := h; exact ⟨T, hk.trans h⟩
theorem Blk.upd {S : Nat → Prop} {w w' : World} {b : Nat} {cs : List Value} (h : Blk w b cs) (hu : Upd S w w') (hs : ¬ S b) : Blk w' b cs :=
  h.keep (hu.block b h.lt hs)
theorem Blk.below {w w' : World} {b B : Nat} {cs : List Value} (h : Blk w b cs) (hu : Below B w w') (hs : b < B) : Blk w' b cs :=
  h.keep (hu.block b hs)
theorem Blk.pure {w w' : World} {b : Nat} {cs : List Value} (h : Blk w b cs) (hu : Below w.heap.size w w') : Blk w' b cs :=
  h.keep (hu.block b h.lt)
theorem Blk.set {w : World} {b : Nat} {cs : List Value} (h : Blk w b cs) (i : Nat) (v : Value) : Blk (w.setCell ⟨b, i, none⟩ v) b (cs.set i v) := by
  obtain ⟨T, h⟩ := h; refine ⟨T, ?_⟩; show (w.heap.modify b _)[b]? = _
  rw [Array.getElem?_modify, if_pos rfl, h]; simp
theorem Blk.other {w : World} {b : Nat} {cs : List Value} (h : Blk w b cs) (p : Addr) (v : Value) (hne : b ≠ p.block) : Blk (w.setCell p v) b cs :=
  h.keep (Below.heap_setCell _ _ _ _ hne)
theorem Blk.alloc {w : World} {b : Nat} {cs : List Value} (h : Blk w b cs) (o : Obj) : Blk (w.alloc o) b cs :=
  h.keep (Below.heap_alloc _ _ _ h.lt)
theorem Blk.new (w : World) (cs : List Value) (T : TypeId) : Blk (w.alloc (.cells cs.toArray T)) w.heap.size cs :=
  ⟨T, heap_alloc_new w _⟩
theorem Blk.drew {w : World} {b : Nat} {cs : List Value} (h : Blk w b cs) : Blk w.drew b cs := h
/-- The value v is a slice that reads as the rows of L, each row m cells long, by enc. -/
def Slc {α : Type} (enc : α → List Value) (m : Nat) (w : World) (v : Value) (L : List α) : Prop :=
  (∃ a cap, v = .slice a 0 cap ∧ cap ≤ maxLen ∧ L = []) ∨
  ∃ g off cap, v = .slice (some ⟨g, off, none⟩) L.length cap ∧ L.length ≤ cap ∧ cap ≤ maxLen ∧
    ∀ i, (h : i < L.length) → ∀ j u, (enc L[i])[j]? = some u → w.cell? ⟨g, off + i * m + j, none⟩ = some u
theorem Slc.keep {α : Type} {enc : α → List Value} {m : Nat} {w w' : World} {v : Value} {L : List α} (h : Slc enc m w v L)
    (hk : ∀ p : Addr, p.block < w.heap.size → some p.block = v.ownBlock → w'.cell? p = w.cell? p) : Slc enc m w' v L := by
  rcases h with h | ⟨g, off, cap, hv, h1, h2, h3⟩
  · exact .inl h
  · refine .inr ⟨g, off, cap, hv, h1, h2, fun i hi j u hu => ?_⟩; have := h3 i hi j u hu; rw [hk _ (World.block_lt_of_cell? w _ this) (by rw [hv]; rfl)]; exact this
theorem Slc.pure {α : Type} {enc : α → List Value} {m : Nat} {w w' : World} {v : Value} {L : List α} (h : Slc enc m w v L)
    (hb : Below w.heap.size w w') : Slc enc m w' v L := h.keep fun _ hp _ => hb.cell hp
theorem Slc.upd {α : Type} {enc : α → List Value} {m : Nat} {S : Nat → Prop} {w w' : World} {v : Value} {L : List α} (h : Slc enc m w v L)
    (hb : Upd S w w') (hS : ∀ k, v.ownBlock = some k → ¬ S k) : Slc enc m w' v L := h.keep fun _ hp e => hb.cell hp (hS _ e.symm)
theorem Slc.nil {α : Type} (enc : α → List Value) (m : Nat) (w : World) : Slc enc m w (.slice none 0 0) ([] : List α) := .inl ⟨none, 0, rfl, by simp, rfl⟩
/-- A cell of a slice that is written out. -/
theorem Slc.get {α : Type} {enc : α → List Value} {m : Nat} {w : World} {g off n cap : Nat} {L : List α} (h : Slc enc m w (.slice (some ⟨g, off, none⟩) n cap) L) (i : Nat) (hi : i < L.length) (j : Nat) (u : Value)
    (hu : (enc L[i])[j]? = some u) : w.cell? ⟨g, off + i * m + j, none⟩ = some u := by
  rcases h with ⟨_, _, _, _, rfl⟩ | ⟨g', off', cap', hv, _, _, hc⟩
  · simp at hi
  · simp only [Value.slice.injEq, Option.some.injEq, Addr.mk.injEq, and_true] at hv; obtain ⟨⟨rfl, rfl⟩, _, _⟩ := hv; exact hc i hi j u hu
/-- The length word of a slice value. -/
theorem Slc.len {α : Type} {enc : α → List Value} {m : Nat} {w : World} {v : Value} {L : List α} (h : Slc enc m w v L) :
    ∃ a cap, v = .slice a L.length cap ∧ L.length ≤ maxLen := by
  rcases h with ⟨a, cap, rfl, hc, rfl⟩ | ⟨g, off, cap, hv, h1, h2, _⟩
  · exact ⟨a, cap, rfl, by simp⟩
  · exact ⟨_, cap, hv, by omega⟩
/-- A row of a slice that the call owns: its cells. -/
theorem flat_get {α : Type} {enc : α → List Value} {m : Nat} (hm : ∀ x, (enc x).length = m) :
    ∀ (L : List α) (i : Nat) (h : i < L.length) (j : Nat) (u : Value), (enc L[i])[j]? = some u → (L.flatMap enc)[i * m + j]? = some u
  | [], i, h, _, _, _ => absurd h (by simp)
  | x :: L, 0, _, j, u, hu => by
    have hj : j < (enc x).length := (List.getElem?_eq_some_iff.1 hu).1; simp only [List.flatMap_cons, Nat.zero_mul, Nat.zero_add]; rw [List.getElem?_append_left hj]; exact hu
  | x :: L, i + 1, h, j, u, hu => by
    simp only [List.flatMap_cons]; rw [List.getElem?_append_right (by rw [hm, Nat.add_mul]; omega)]; have := flat_get hm L i (by simpa using h) j u hu; rw [hm]; rw [show (i + 1) * m + j - m = i * m + j by rw [Nat.add_mul]; omega]; exact this
theorem flat_len {α : Type} {enc : α → List Value} {m : Nat} (hm : ∀ x, (enc x).length = m) (L : List α) : (L.flatMap enc).length = L.length * m := by
  induction L with
  | nil => simp
  | cons x L ih => simp [hm, ih, Nat.add_mul]; omega
/-- A slice that the call owns reads as its rows. -/
theorem Slc.own {α : Type} {enc : α → List Value} {m : Nat} (hm : ∀ x, (enc x).length = m) {w : World} {base : Nat} {e : TypeId} {v : Value} {n : Nat} {L : List α}
    (h : w.ownsRow base e m v n (L.flatMap enc)) (hn : n = L.length) : Slc enc m w v L := by
  subst hn; rcases h.2 with ⟨hv, h0⟩ | ⟨g, cap, cur, hv, hb, hg, h1, h2, h3, h4⟩
  · exact .inl ⟨none, 0, hv, by simp, List.eq_nil_of_length_eq_zero h0⟩
  · refine .inr ⟨g, 0, cap, hv, h1, h2, fun i hi j u hu => ?_⟩; have := h.cells (g := g) (by rw [hv]; rfl) (i * m + j) u (flat_get hm L i hi j u hu)
    have e : (⟨g, 0, none⟩ : Addr).add (i * m + j) = ⟨g, 0 + i * m + j, none⟩ := by
      unfold Addr.add; split <;> simp_all
    rw [← e]; exact this
theorem toList_len (s : ByteArray) : s.toList.length = s.size := by rw [ByteArray.toList_eq]; exact Array.length_toList
theorem empty_yes {s : ByteArray} (h : s.size = 0) : s.toList.isEmpty = true := by
  rw [List.isEmpty_iff]; exact List.eq_nil_of_length_eq_zero (by rw [toList_len]; exact h)
theorem empty_no {s : ByteArray} (h : 0 < s.size) : s.toList.isEmpty = false := by
  rw [Bool.eq_false_iff]; intro e; rw [List.isEmpty_iff] at e; have := toList_len s; rw [e] at this; simp at this; omega
theorem toList_inj {s t : ByteArray} (h : s.toList = t.toList) : s = t := by
  rw [ByteArray.toList_eq, ByteArray.toList_eq] at h; cases s; cases t; congr 1; exact Array.toList_inj.1 h
theorem same_iff (s t : ByteArray) : (s.toList == t.toList) = true ↔ s = t := by
  rw [beq_iff_eq]; exact ⟨toList_inj, fun h => by rw [h]⟩
theorem findP_no {α : Type} {p : α → Bool} {L : List α} {k : Nat} (hk : k < L.length) (h : (L.take k).findIdx? p = none) (hq : p L[k] = false) :
    (L.take (k + 1)).findIdx? p = none := by
  rw [List.take_succ_eq_append_getElem hk, List.findIdx?_append, h]; simp [List.findIdx?_cons, hq]
theorem findP_yes {α : Type} {p : α → Bool} {L : List α} {k : Nat} (hk : k < L.length) (h : (L.take k).findIdx? p = none) (hq : p L[k] = true) :
    L.findIdx? p = some k := by
  rw [List.findIdx?_eq_some_iff_getElem]; refine ⟨hk, hq, fun j hj => ?_⟩; rw [List.findIdx?_eq_none_iff] at h
  have := h (L[j]'(by omega)) (by
    rw [List.mem_take_iff_getElem]
    exact ⟨j, by omega, rfl⟩)
  simpa using this
/-- The value v is a slice whose array is the call's own, in a block from base on; it reads as the rows of L. -/
def Own {α : Type} (base : Nat) (e : TypeId) (m : Nat) (enc : α → List Value) (w : World) (v : Value) (L : List α) : Prop :=
  w.ownsRow base e m v L.length (L.flatMap enc)
section
variable {α : Type} {base : Nat} {e : TypeId} {m : Nat} {enc : α → List Value} {w w' : World} {v : Value} {L : List α}
theorem Own.nil : Own base e m enc w (.slice none 0 0) [] := World.ownsRow_nil _ _ _ _
theorem Own.slc (hm : ∀ x, (enc x).length = m) (h : Own base e m enc w v L) : Slc enc m w v L := Slc.own hm h rfl
theorem Own.keep (h : Own base e m enc w v L) (hk : ∀ k, v.ownBlock = some k → k < w.heap.size → w'.heap[k]? = w.heap[k]?) : Own base e m enc w' v L := by
  refine ⟨h.1, ?_⟩; rcases h.2 with hn | ⟨g, cap, cur, rfl, hb, hg, rest⟩
  · exact .inl hn
  · exact .inr ⟨g, cap, cur, rfl, hb, (hk g rfl (Array.getElem?_eq_some_iff.1 hg).1).trans hg, rest⟩
theorem Own.upd {S : Nat → Prop} (h : Own base e m enc w v L) (hu : Upd S w w') (hs : ∀ k, v.ownBlock = some k → ¬ S k) : Own base e m enc w' v L :=
  h.keep fun k hk hl => hu.block k hl (hs k hk)
theorem Own.pure (h : Own base e m enc w v L) (hu : Below w.heap.size w w') : Own base e m enc w' v L :=
  h.keep fun k _ hl => hu.block k hl
theorem Own.alloc (h : Own base e m enc w v L) (o : Obj) : Own base e m enc (w.alloc o) v L := h.pure ((Below.refl _ _).alloc (Nat.le_refl _) _)
theorem Own.drew (h : Own base e m enc w v L) : Own base e m enc w.drew v L := h
theorem Own.other (h : Own base e m enc w v L) (p : Addr) (u : Value) (hne : ∀ k, v.ownBlock = some k → k ≠ p.block) : Own base e m enc (w.setCell p u) v L :=
  h.keep fun k hk _ => Below.heap_setCell _ _ _ _ (hne k hk)
theorem Own.lt (h : Own base e m enc w v L) {k : Nat} (hk : v.ownBlock = some k) : k < w.heap.size := (World.ownsRow.lt h k hk).2
theorem Own.ge (h : Own base e m enc w v L) {k : Nat} (hk : v.ownBlock = some k) : base ≤ k := (World.ownsRow.lt h k hk).1
theorem Own.rebase {b' : Nat} (h : Own base e m enc w v L) (hb : ∀ k, v.ownBlock = some k → b' ≤ k) : Own b' e m enc w v L := by
  refine ⟨h.1, ?_⟩; rcases h.2 with hn | ⟨g, cap, cur, rfl, _, hg, rest⟩
  · exact .inl hn
  · exact .inr ⟨g, cap, cur, rfl, hb g rfl, hg, rest⟩
theorem Own.shape (h : Own base e m enc w v L) (hL : L ≠ []) : ∃ g cap, v = .slice (some ⟨g, 0, none⟩) L.length cap ∧ base ≤ g ∧ g < w.heap.size := by
  rcases h.2 with ⟨_, h0⟩ | ⟨g, cap, cur, rfl, hb, hg, _⟩
  · exact absurd (List.eq_nil_of_length_eq_zero h0) hL
  · exact ⟨g, cap, rfl, hb, (Array.getElem?_eq_some_iff.1 hg).1⟩
theorem Own.cases (h : Own base e m enc w v L) : (v = .slice none 0 0 ∧ L = []) ∨ ∃ g cap, v = .slice (some ⟨g, 0, none⟩) L.length cap ∧ base ≤ g ∧ g < w.heap.size ∧ L.length ≤ cap ∧ cap ≤ maxLen := by
  rcases h.2 with ⟨hv, h0⟩ | ⟨g, cap, cur, rfl, hb, hg, h1, h2, _⟩
  · exact .inl ⟨hv, List.eq_nil_of_length_eq_zero h0⟩
  · exact .inr ⟨g, cap, rfl, hb, (Array.getElem?_eq_some_iff.1 hg).1, h1, h2⟩
theorem Own.cell (hm : ∀ x, (enc x).length = m) {g n cap : Nat} (h : Own base e m enc w (.slice (some ⟨g, 0, none⟩) n cap) L) (i : Nat) (hi : i < L.length) (j : Nat) (u : Value) (hu : (enc L[i])[j]? = some u) :
    w.cell? ⟨g, i * m + j, none⟩ = some u := by
  have h1 := World.ownsRow.cells h (g := g) rfl (i * m + j) u (flat_get hm L i hi j u hu); have e : (⟨g, 0, none⟩ : Addr).add (i * m + j) = ⟨g, i * m + j, none⟩ := by unfold Addr.add; split <;> simp_all
  rw [← e]; exact h1
theorem Own.frozen {g n cap : Nat} (h : Own base e m enc w (.slice (some ⟨g, 0, none⟩) n cap) L) (j : Nat) : w.frozen? ⟨g, j, none⟩ = false := by
  rcases h.2 with ⟨h', _⟩ | ⟨g', cap', cur, h', hb, hg, _⟩
  · simp at h'
  · simp only [Value.slice.injEq, Option.some.injEq, Addr.mk.injEq, and_true] at h'; obtain ⟨rfl, _⟩ := h'; simp [World.frozen?, hg]
theorem flat_set (hm : ∀ x, (enc x).length = m) : ∀ (L : List α) (i : Nat) (h : i < L.length) (j : Nat) (u : Value) (x' : α), j < m → enc x' = (enc L[i]).set j u →
    (L.set i x').flatMap enc = (L.flatMap enc).set (i * m + j) u
  | [], i, h, _, _, _, _, _ => absurd h (by simp)
  | x :: L, 0, _, j, u, x', hj, hx => by
    simp only [List.set_cons_zero, List.flatMap_cons, Nat.zero_mul, Nat.zero_add]; rw [List.set_append_left _ _ (by rw [hm]; exact hj)]; simp only [List.getElem_cons_zero] at hx; rw [hx]
  | x :: L, i + 1, h, j, u, x', hj, hx => by
    simp only [List.set_cons_succ, List.flatMap_cons]; rw [flat_set hm L i (by simpa using h) j u x' hj (by simpa using hx), List.set_append_right _ _ (by rw [hm, Nat.add_mul]; omega)]; congr 2; rw [hm, Nat.add_mul]; omega
/-- A store into one cell of a row. -/
theorem Own.set (hm : ∀ x, (enc x).length = m) {g n cap : Nat} (h : Own base e m enc w (.slice (some ⟨g, 0, none⟩) n cap) L) (i : Nat) (hi : i < L.length) (j : Nat) (u : Value) (x' : α)
    (hj : j < m) (hx : enc x' = (enc L[i]).set j u) : Own base e m enc (w.setCell ⟨g, i * m + j, none⟩ u) (.slice (some ⟨g, 0, none⟩) n cap) (L.set i x') := by
  have hn : n = L.length := by
    rcases h.2 with ⟨h', _⟩ | ⟨_, _, _, h', _⟩
    · simp at h'
    · simp only [Value.slice.injEq] at h'; exact h'.2.1
  subst hn; have := (World.ownsRow.stored h (i * m + j) u).1; unfold Own; rw [List.length_set, flat_set hm L i hi j u x' hj hx]; exact this
end
/-- The table's row of a slice's element type. -/
structure ElemT (P : Program) (t e : TypeId) (m bytes : Nat) : Prop where
  ht : P.underlying t = some (.slice e)
  ex : ∃ (i : TypeInfo) (z : Value), P.info? e = some i ∧ i.zero = some z ∧ i.size = m ∧ i.bytes = bytes ∧ z.cells.size = m
  pos : 0 < m
theorem ElemT.mk' {P : Program} {t e : TypeId} {z : Value} {m bytes : Nat} (ht : P.underlying t = some (.slice e)) (h : (P.info? e).map (fun i => (i.zero, i.size, i.bytes)) = some (some z, m, bytes))
    (hz : z.cells.size = m) (hp : 0 < m) : ElemT P t e m bytes := by
  obtain ⟨i, h1, h2, h3, h4⟩ := info_parts h; exact ⟨ht, ⟨i, z, h1, h2, h3, h4, hz⟩, hp⟩
theorem run_append_owned_none' {P : Program} (w : World) (base : Nat) (t ty e : TypeId) (i : TypeInfo) (size c : Nat) (ht : P.underlying t = some (.slice e)) (hi : P.info? e = some i)
    (v : Value) (n : Nat) (xs : List Value) (hown : w.ownsRow base e size v n xs) :
    (Builtin.append_ #[t, t] ty #[v, .slice none 0 c]).run P w = .ok v w := by
  rcases hown.2 with ⟨rfl, rfl⟩ | ⟨g, cap, cur, rfl, _, _, hnc, _⟩
  · simp [Builtin.append_, run_underlying ht, sizeOf, typeInfo, hi, Builtin.lenOf, Builtin.firstCells]
  · simp [Builtin.append_, run_underlying ht, sizeOf, typeInfo, hi, Builtin.lenOf, Builtin.firstCells, hnc, storeCells]
/-- append of the rows of a slice (nil or not) onto a slice of the call's own. -/
theorem wpList_app {α : Type} {enc : α → List Value} {m bytes base : Nat} {P : Program} {w : World} {ops : Array Oper} {rest : List Oper} {o : Oper} {a : Act} {Q : Exit → Act → World → Prop}
    (hgd : o.guard = none) (s x : Operand) (t e : TypeId) (ho : o.op = .call { callee := .builtin .append, args := #[s, x], argTypes := #[t, t] })
    (hE : ElemT P t e m bytes) (hm : ∀ x, (enc x).length = m) (hone : ∀ x, ∀ u ∈ enc x, u.oneCell' = true)
    (v : Value) (L : List α) (hs : a.eval s = v) (hown : Own base e m enc w v L)
    (y : Value) (L2 : List α) (hx : a.eval x = y) (hsrc : Slc enc m w y L2)
    (hlen : (L.length + L2.length) ≤ maxLen) (hbytes : (L.length + L2.length) * bytes ≤ 140737488355328) (hbase : base ≤ w.heap.size)
    (h : ∀ v' w', Own base e m enc w' v' (L ++ L2) → w.grownBy w' v.ownBlock → (v'.ownBlock = v.ownBlock ∨ v'.ownBlock = some w.heap.size) →
      (v' = .slice none 0 0 ∨ ∃ g cap, v' = .slice (some ⟨g, 0, none⟩) (L.length + L2.length) cap) → wpList P ops Q rest (a.put o.dst v') w') :
    wpList P ops Q (o :: rest) a w := by
  obtain ⟨i, z, hi, hz, hsize, hby, hzs⟩ := hE.ex; have hL2 : (L2.flatMap enc).length = L2.length * m := flat_len hm L2
  have key : ∀ v' w', w'.ownsRow base e m v' (L.length + L2.length) (L.flatMap enc ++ L2.flatMap enc) → w.grownBy w' v.ownBlock → (v'.ownBlock = v.ownBlock ∨ v'.ownBlock = some w.heap.size) → wpList P ops Q rest (a.put o.dst v') w' := by
    intro v' w' h1 h2 h4; have h1' : Own base e m enc w' v' (L ++ L2) := by unfold Own; rw [List.length_append, List.flatMap_append]; exact h1
    refine h v' w' h1' h2 h4 ?_; rcases h1'.cases with ⟨hv, _⟩ | ⟨g, cap, hv, _⟩
    · exact .inl hv
    · exact .inr ⟨g, cap, by simpa using hv⟩
  have nilcase : y = .slice none 0 0 → L2 = [] → wpList P ops Q (o :: rest) a w := by
    rintro rfl rfl; refine wpList_plain hgd fun K hK => ?_
    have hr := run_append_owned_none (P := P) w base t o.type e i m hE.ht hi v L.length (L.flatMap enc) hown; unfold Oper.wp execOp; simp only [ho, resolve, invoke, builtin, Sem.run_bind, Sem.run_pure, Result.andThen_ok, List.map_toArray, List.map_cons, List.map_nil, hs, hx, hr]; exact hK _ _ (key v w (by simpa [Own] using hown) (World.grownBy.refl _ _) (.inl rfl))
  rcases hsrc with ⟨ya, cap, rfl, hcap, rfl⟩ | ⟨g, off, cap, rfl, hc1, hc2, hcell⟩
  · cases ya with
    | none =>
      by_cases hc0 : cap = 0
      · subst hc0; exact nilcase rfl rfl
      · refine wpList_plain hgd fun K hK => ?_
        have hr := run_append_owned_none' (P := P) w base t o.type e i m cap hE.ht hi v L.length (L.flatMap enc) hown; unfold Oper.wp execOp; simp only [ho, resolve, invoke, builtin, Sem.run_bind, Sem.run_pure, Result.andThen_ok, List.map_toArray, List.map_cons, List.map_nil, hs, hx, hr]; exact hK _ _ (key v w (by simpa [Own] using hown) (World.grownBy.refl _ _) (.inl rfl))
    | some ya =>
      refine wpList_append_own_at w hgd s x t ho base e i z m bytes hE.ht hi hz hsize hby hzs hE.pos v L.length (L.flatMap enc) hs hown ya 0 cap [] hx (by simp) (by simp) (by simp) (by simpa using hlen) (by simpa using hbytes) hbase ?_; intro v' w' h1 h2 _ h4; exact key v' w' (by simpa using h1) h2 h4
  · refine wpList_append_own_at w hgd s x t ho base e i z m bytes hE.ht hi hz hsize hby hzs hE.pos v L.length (L.flatMap enc) hs hown ⟨g, off, none⟩ L2.length cap (L2.flatMap enc) hx hL2 ?_ ?_ hlen hbytes hbase ?_
    · intro j u hu; have hj : j < L2.length * m := by rw [← hL2]; exact (List.getElem?_eq_some_iff.1 hu).1
      have hi' : j / m < L2.length := Nat.div_lt_of_lt_mul (by rw [Nat.mul_comm]; exact hj); have hjm : j / m * m + j % m = j := by rw [Nat.mul_comm]; exact Nat.div_add_mod j m
      have hlt : j % m < (enc L2[j / m]).length := by rw [hm]; exact Nat.mod_lt _ hE.pos
      have h1 := flat_get hm L2 (j / m) hi' (j % m) (enc L2[j / m])[j % m] (List.getElem?_eq_getElem hlt); rw [hjm, hu] at h1; have h2 := hcell (j / m) hi' (j % m) u (by rw [List.getElem?_eq_getElem hlt]; exact h1.symm)
      have e1 : (⟨g, off, none⟩ : Addr).add j = ⟨g, off + j / m * m + j % m, none⟩ := by
        rw [Nat.add_assoc, hjm]; unfold Addr.add; split <;> simp_all
      rw [e1]; exact h2
    · intro u hu; obtain ⟨y, _, hy⟩ := List.mem_flatMap.1 hu; exact hone y u hy
    · intro v' w' h1 h2 _ h4; exact key v' w' h1 h2 h4
/-- append of one row, which lies in a block of its own. -/
theorem wpList_app1 {α : Type} {enc : α → List Value} {m bytes base : Nat} {P : Program} {w : World} {ops : Array Oper} {rest : List Oper} {o : Oper} {a : Act} {Q : Exit → Act → World → Prop}
    (hgd : o.guard = none) (s x : Operand) (t e : TypeId) (ho : o.op = .call { callee := .builtin .append, args := #[s, x], argTypes := #[t, t] })
    (hE : ElemT P t e m bytes) (hm : ∀ x, (enc x).length = m) (hone : ∀ x, ∀ u ∈ enc x, u.oneCell' = true)
    (v : Value) (L : List α) (hs : a.eval s = v) (hown : Own base e m enc w v L)
    (g cap : Nat) (y : α) (hx : a.eval x = .slice (some ⟨g, 0, none⟩) 1 cap) (hy : ∀ j u, (enc y)[j]? = some u → w.cell? ⟨g, j, none⟩ = some u)
    (hbytes : (L.length + 1) * bytes ≤ 140737488355328) (hlen : L.length + 1 ≤ maxLen) (hbase : base ≤ w.heap.size)
    (h : ∀ g' cap' w', Own base e m enc w' (.slice (some ⟨g', 0, none⟩) (L.length + 1) cap') (L ++ [y]) → w.grownBy w' v.ownBlock → (v.ownBlock = some g' ∨ g' = w.heap.size) →
      wpList P ops Q rest (a.put o.dst (.slice (some ⟨g', 0, none⟩) (L.length + 1) cap')) w') :
    wpList P ops Q (o :: rest) a w := by
  obtain ⟨i, z, hi, hz, hsize, hby, hzs⟩ := hE.ex; refine wpList_append_own_at w hgd s x t ho base e i z m bytes hE.ht hi hz hsize hby hzs hE.pos v L.length (L.flatMap enc) hs hown ⟨g, 0, none⟩ 1 cap (enc y) hx (by rw [hm]; omega) ?_ (hone y) hlen hbytes hbase ?_
  · intro j u hu; have e1 : (⟨g, 0, none⟩ : Addr).add j = ⟨g, j, none⟩ := by unfold Addr.add; split <;> simp_all
    rw [e1]; exact hy j u hu
  · intro v' w' h1 h2 h3 h4; have h1' : Own base e m enc w' v' (L ++ [y]) := by unfold Own; rw [List.length_append, List.flatMap_append]; simpa using h1
    obtain ⟨g', cap', hv, _⟩ := h1'.shape (by simp); have hv' : v' = .slice (some ⟨g', 0, none⟩) (L.length + 1) cap' := by simpa using hv
    subst hv'
    exact h g' cap' w' h1' h2 (by
      rcases h4 with h4 | h4
      · exact .inl h4.symm
      · exact .inr (by simpa [Value.ownBlock] using h4))
/-- The table's row of a slice's element type, with its zero's cells. -/
structure ElemZ (P : Program) (t e : TypeId) (m bytes : Nat) (zs : List Value) : Prop where
  ht : P.underlying t = some (.slice e)
  ex : ∃ (i : TypeInfo) (z : Value), P.info? e = some i ∧ i.zero = some z ∧ i.size = m ∧ i.bytes = bytes ∧ z.cells = zs.toArray
  pos : 0 < m
  len : zs.length = m
theorem ElemZ.mk' {P : Program} {t e : TypeId} {z : Value} {m bytes : Nat} {zs : List Value} (ht : P.underlying t = some (.slice e)) (h : (P.info? e).map (fun i => (i.zero, i.size, i.bytes)) = some (some z, m, bytes))
    (hz : z.cells = zs.toArray) (hp : 0 < m) (hl : zs.length = m) : ElemZ P t e m bytes zs := by
  obtain ⟨i, h1, h2, h3, h4⟩ := info_parts h; exact ⟨ht, ⟨i, z, h1, h2, h3, h4, hz⟩, hp, hl⟩
theorem ElemZ.toT {P : Program} {t e : TypeId} {m bytes : Nat} {zs : List Value} (h : ElemZ P t e m bytes zs) : ElemT P t e m bytes := by
  obtain ⟨ht, ⟨i, z, h1, h2, h3, h4, h5⟩, hp, hl⟩ := h; exact ⟨ht, ⟨i, z, h1, h2, h3, h4, by rw [h5]; simpa using hl⟩, hp⟩
theorem flat_replicate_get {α : Type} {enc : α → List Value} {m : Nat} (hm : ∀ x, (enc x).length = m) (hp : 0 < m) (x0 : α) : ∀ (n j : Nat), j < n * m → ((List.replicate n x0).flatMap enc)[j]? = (enc x0)[j % m]?
  | 0, j, h => by simp at h
  | n + 1, j, h => by
    simp only [List.replicate_succ, List.flatMap_cons]; by_cases hj : j < m
    · rw [List.getElem?_append_left (by rw [hm]; exact hj), Nat.mod_eq_of_lt hj]
    · rw [List.getElem?_append_right (by rw [hm]; omega), hm, flat_replicate_get hm hp x0 n (j - m) (by rw [Nat.add_mul] at h; omega)]; rw [← Nat.mod_eq_sub_mod (by omega)]
theorem made_flat {α : Type} {enc : α → List Value} {m : Nat} (hm : ∀ x, (enc x).length = m) (hp : 0 < m) (x0 : α) (n : Nat) :
    (madeCells (enc x0).toArray (n * m)).toList = (List.replicate n x0).flatMap enc := by
  apply List.ext_getElem?; intro j; by_cases hj : j < n * m
  · rw [flat_replicate_get hm hp x0 n j hj]; have hlt : j % m < (enc x0).length := by rw [hm]; exact Nat.mod_lt _ hp
    have hlt' : j % (enc x0).length < (enc x0).length := Nat.mod_lt _ (by omega); simp [madeCells, hj, hm, List.getElem?_eq_getElem hlt]
  · rw [List.getElem?_eq_none (by simp [size_madeCells]; omega), List.getElem?_eq_none (by rw [flat_len hm]; simp; omega)]
/-- make of a slice, full. -/
theorem wpList_mk {α : Type} {enc : α → List Value} {m bytes base : Nat} {P : Program} {w : World} {ops : Array Oper} {rest : List Oper} {o : Oper} {a : Act} {Q : Exit → Act → World → Prop}
    (hgd : o.guard = none) (l c : Operand) (t e : TypeId) (hop : o.op = Op.makeSlice t l c) (x0 : α) (hE : ElemZ P t e m bytes (enc x0)) (hm : ∀ x, (enc x).length = m)
    (kl kc : IntKind) (N C : Int) (n : Nat) (hl : a.eval l = .int kl N) (hc : a.eval c = .int kc C) (hL : N = (n : Int)) (hC : C = (n : Int)) (b2 : bytes * n ≤ 281474976710656) (b3 : n ≤ maxLen) (b4 : base ≤ w.heap.size)
    (h : ∀ w', Own base e m enc w' (.slice (some ⟨w.heap.size, 0, none⟩) n n) (List.replicate n x0) → w.grownBy w' none → wpList P ops Q rest (a.put o.dst (.slice (some ⟨w.heap.size, 0, none⟩) n n)) w') :
    wpList P ops Q (o :: rest) a w := by
  obtain ⟨i, z, hi, hz, hsize, hby, hzs⟩ := hE.ex; refine wpList_make_full w hgd l c t hop base e i z m hE.ht hi hz hsize kl kc N C n hl hc hL hC (by rw [hby]; exact b2) b3 b4 ?_; intro w' h1 h2; refine h w' ?_ h2; unfold Own; rw [List.length_replicate, ← made_flat hm hE.pos x0 n, ← hzs]; exact h1
/-- A literal slice of no elements. -/
theorem Own.made0 {α : Type} {enc : α → List Value} {m : Nat} (w : World) (e : TypeId) {base : Nat} (hb : base ≤ w.heap.size) : Own base e m enc (w.alloc (.cells #[] e)) (.slice (some ⟨w.heap.size, 0, none⟩) 0 0) ([] : List α) :=
  ⟨by simp, .inr ⟨w.heap.size, 0, #[], rfl, hb, heap_alloc_new w _, by simp, by simp, by simp, by simp⟩⟩
/-- A part of the rows. -/
theorem Slc.part {α : Type} {enc : α → List Value} {m : Nat} {w : World} {a : Option Addr} {n cap : Nat} {L : List α} (h : Slc enc m w (.slice a n cap) L) {l u : Nat} (hl : l ≤ u) (hu : u ≤ L.length) :
    Slc enc m w (sliced a l u cap m) ((L.take u).drop l) := by
  rcases h with ⟨a', cap', hv, hc, rfl⟩ | ⟨g, off, cap', hv, h1, h2, h3⟩
  · simp only [Value.slice.injEq] at hv; obtain ⟨rfl, rfl, rfl⟩ := hv; simp only [List.length_nil] at hu; obtain rfl : u = 0 := by omega
    obtain rfl : l = 0 := by omega
    refine .inl ⟨_, cap - 0, rfl, by omega, by simp⟩
  · simp only [Value.slice.injEq] at hv; obtain ⟨rfl, rfl, rfl⟩ := hv; unfold sliced; have hlen : ((L.take u).drop l).length = u - l := by rw [List.length_drop, List.length_take]; omega
    by_cases hcl : cap = l
    · have hul : u = l := by omega
      rw [if_pos hcl]; refine .inl ⟨_, cap - l, by rw [hul, Nat.sub_self], by omega, List.eq_nil_of_length_eq_zero (by rw [hlen]; omega)⟩
    · rw [if_neg hcl]; refine .inr ⟨g, off + l * m, cap - l, ?_, by rw [hlen]; omega, by omega, fun i hi j x hx => ?_⟩
      · rw [hlen]; simp only [Option.map_some]; congr 2; unfold Addr.add; split <;> simp_all
      · rw [hlen] at hi; have e : ((L.take u).drop l)[i]'(by rw [hlen]; exact hi) = L[l + i]'(by omega) := by rw [List.getElem_drop, List.getElem_take]
        rw [e] at hx; have := h3 (l + i) (by omega) j x hx; rw [Nat.add_mul] at this; rw [show off + l * m + i * m + j = off + (l * m + i * m) + j by omega]; exact this
/-- The shape of a slice, its length under a name of its own. -/
theorem Own.shape3 {α : Type} {enc : α → List Value} {m base : Nat} {e : TypeId} {w : World} {v : Value} {L : List α} (h : Own base e m enc w v L) : ∃ a n c, v = .slice a n c := by
  rcases h.cases with ⟨rfl, _⟩ | ⟨g, cap, rfl, _⟩
  · exact ⟨_, _, _, rfl⟩
  · exact ⟨_, _, _, rfl⟩
theorem Slc.shape3 {α : Type} {enc : α → List Value} {m : Nat} {w : World} {v : Value} {L : List α} (h : Slc enc m w v L) : ∃ a n c, v = .slice a n c := by
  obtain ⟨a, c, rfl, _⟩ := h.len; exact ⟨_, _, _, rfl⟩
section
variable {α : Type} {enc : α → List Value} {m bytes : Nat} {P : Program} {w : World} {ops : Array Oper} {rest : List Oper} {o : Oper} {a : Act} {Q : Exit → Act → World → Prop} {v : Value} {L : List α} {t e : TypeId} {x y z : Operand}
theorem size_run (hE : ElemT P t e m bytes) : (sizeOf e).run P w = .ok m w := by
  obtain ⟨i, z, hi, hz, hsize, hby, hzs⟩ := hE.ex; simp [sizeOf, typeInfo, hi, hsize]
/-- 'x[:u]'. -/
theorem wpList_slc_h (hgd : o.guard = none) (ho : o.op = .slice t x none (some y) none) (hE : ElemT P t e m bytes) (hx : a.eval x = v) (hS : Slc enc m w v L) {k : IntKind} {u : Nat} {U : Int} (hy : a.eval y = .int k U) (hU : U = (u : Nat)) (hu : u ≤ L.length)
    (h : ∀ v', Slc enc m w v' (L.take u) → wpList P ops Q rest (a.put o.dst v') w) : wpList P ops Q (o :: rest) a w := by
  obtain ⟨A, cap, rfl, hm⟩ := hS.len
  have hcap : L.length ≤ cap := by
    rcases hS with ⟨_, _, hv, _, h0⟩ | ⟨g, off, cap', hv, h1, h2, _⟩
    · rw [h0]; simp
    · simp only [Value.slice.injEq] at hv; obtain ⟨_, _, rfl⟩ := hv; exact h1
  have hp := h _ (by have := hS.part (Nat.zero_le u) hu; rwa [List.drop_zero] at this); refine wpList_plain hgd fun K' hK' => ?_
  unfold Oper.wp; subst hU; have hel : P.elem t = e := by unfold Program.elem; rw [hE.ht]
  have hr := run_slice_h (P := P) (w := w) t A L.length cap (by rw [hel]; exact hE.ht) k (u : Int) (by omega) (by omega); rw [hel, size_run hE] at hr; simp only [Result.andThen, Int.toNat_natCast] at hr; simp [execOp, ho, hx, hy, Result.andThen, run_sliceAt_slice (P := P) (w := w) t _ _ _ _ (by rw [hel]; exact hE.ht), hr]; exact hK' _ _ hp
/-- 'x[l:]'. -/
theorem wpList_slc_l (hgd : o.guard = none) (ho : o.op = .slice t x (some y) none none) (hE : ElemT P t e m bytes) (hx : a.eval x = v) (hS : Slc enc m w v L) {k : IntKind} {l : Nat} {U : Int} (hy : a.eval y = .int k U) (hU : U = (l : Nat)) (hl : l ≤ L.length)
    (h : ∀ v', Slc enc m w v' (L.drop l) → wpList P ops Q rest (a.put o.dst v') w) : wpList P ops Q (o :: rest) a w := by
  obtain ⟨A, cap, rfl, hm⟩ := hS.len; have hp := h _ (by have := hS.part hl (Nat.le_refl _); rwa [List.take_length] at this); refine wpList_plain hgd fun K' hK' => ?_
  unfold Oper.wp; subst hU; have hel : P.elem t = e := by unfold Program.elem; rw [hE.ht]
  have hr := run_slice_l (P := P) (w := w) t A L.length cap (by rw [hel]; exact hE.ht) k (l : Int) (by omega) (by omega); rw [hel, size_run hE] at hr; simp only [Result.andThen, Int.toNat_natCast] at hr; simp [execOp, ho, hx, hy, Result.andThen, run_sliceAt_slice (P := P) (w := w) t _ _ _ _ (by rw [hel]; exact hE.ht), hr]; exact hK' _ _ hp
end
theorem Own.low {α : Type} {base e m : Nat} {enc : α → List Value} {w : World} {v : Value} {L : List α} (h : Own base e m enc w v L) (b i : Nat) (u : Value) (hb : b < base) : Own base e m enc (w.setCell ⟨b, i, none⟩ u) v L :=
  h.other _ _ (fun j hj e => by have h1 := h.ge hj; dsimp only at e; omega)
theorem own_at' {α : Type} {m : Nat} {enc : α → List Value} {base : Nat} {e : TypeId} {w : World} {a : Option Addr} {n c : Nat} {R : List α} (h : Own base e m enc w (.slice a n c) R) {k : Nat} (hk : k < R.length) : ∃ g, a = some ⟨g, 0, none⟩ ∧ base ≤ g := by
  rcases h.cases with ⟨_, h2⟩ | ⟨g, cap, h1, h2, _⟩
  · rw [h2] at hk; simp at hk
  · simp only [Value.slice.injEq] at h1; exact ⟨g, h1.1, h2⟩
theorem Blk.at {w : World} {b : Nat} {cs : List Value} (h : Blk w b cs) (i : Nat) {u : Value} (hu : cs[i]? = some u) : w.cell? ⟨b, i, none⟩ = some u := (h.cell i).trans hu
end Go.Proofs.YtlonokcaddpniaaGreatDoor
namespace Go.Proofs.YtlonokcaddpniaaGreatDoor
section
variable {P : Program} {ops : Array Oper} {o : Oper} {a : Act} {w : World}
theorem upon_of {K : Act → World → Prop} {Q : Exit → Act → World → Prop} {r : Result Next} (h : o.upon P a K (fun e a w => e = .normal ∧ K a w) r) : o.upon P a K Q r := by
  cases r with
  | ok n w' =>
    cases n with
    | enter f args =>
      refine Calls.mono (R := _) h ?_; intro e w'' hr
      cases e with
      | returned v => exact hr
      | panicked chain => exact absurd hr.1 (by simp)
      | outgrown => obtain ⟨_, _, h1, _⟩ := hr; exact absurd h1 (by simp)
    | _ => first | exact h | exact h.elim
  | halt x w' =>
    cases x with
    | panic v => exact absurd h.1 (by simp)
    | _ => first | exact h | exact h.elim
theorem step_of_list {K : Act → World → Prop} {Q : Exit → Act → World → Prop} {Z : Prop} (hg : o.guard = none) (h : wpList P ops (fun e a w => e = .normal ∧ K a w) [o] a w) :
    if Region.wanted o (yielded ops a.tmps) = true then Oper.wp P o a w K Q else Z := by
  have hw : Region.wanted o (yielded ops a.tmps) = true := by simp [Region.wanted, hg]
  rw [if_pos hw]; unfold wpList at h; rw [if_pos hw] at h; have e : wpList P ops (fun e a w => e = .normal ∧ K a w) [] = K := by funext a w; exact propext ⟨And.right, fun h => ⟨rfl, h⟩⟩
  rw [e] at h; rcases h with h | ⟨_, a', w', h, _⟩
  · exact upon_of h
  · exact absurd h (by simp)
end
end Go.Proofs.YtlonokcaddpniaaGreatDoor
namespace Go.Proofs.YtlonokcaddpniaaGreatDoor
section
variable {P : Program} {ops : Array Oper} {Q : Exit → Act → World → Prop} {md : Region.Mode} {S : World → Prop}
theorem takeH (i d : Nat) {oi : Oper} {v : Value} {fuel : Nat} {listed : Array Bool} {a : Act} {w : World} (hi : ops[i]? = some oi) (hd : oi.dst = some d)
    (hs : Region.noSelect ops = true) (hf : Region.free md ops listed i = true) (hr : (Region.ready md ops listed).contains i = true)
    (hQ : ∀ c a w, Q (.panic c) (a.put oi.dst v) w → Q (.panic c) a w) (hy : YieldsIf P ops S oi v a) (hS : S w)
    (h : wpAnyH P md ops Q S fuel (listed.setIfInBounds i true) (a.put (some d) v) w) : wpAnyH P md ops Q S (fuel + 1) listed a w :=
  wpAnyH_take hi hs hf hr hQ hy hS (by rw [hd]; exact h)
/-- As takeH, of an operation that is wanted; what the kernel reckons is filled in. -/
theorem takeY (i d : Nat) {oi : Oper} {v : Value} {fuel : Nat} {listed : Array Bool} {a : Act} {w : World} (hi : ops[i]? = some oi) (hd : oi.dst = some d)
    (hy : ∀ w, S w → (execOp a.eval oi).run P w = .ok (.value v) w) (hS : S w) (h : wpAnyH P md ops Q S fuel (listed.setIfInBounds i true) (a.put (some d) v) w)
    (hs : Region.noSelect ops = true := by kernel_rfl) (hf : Region.free md ops listed i = true := by kernel_rfl) (hr : (Region.ready md ops listed).contains i = true := by kernel_rfl)
    (hw : Region.wanted oi (yielded ops a.tmps) = true := by kernel_rfl) (hQ : ∀ c a w, Q (.panic c) (a.put oi.dst v) w → Q (.panic c) a w := by exact fun _ _ _ h => h) : wpAnyH P md ops Q S (fuel + 1) listed a w :=
  takeH i d hi hd hs hf hr hQ (Or.inl ⟨hw, hy⟩) hS h
/-- As takeH, of an operation that is not wanted. -/
theorem takeN (i d : Nat) {oi : Oper} {fuel : Nat} {listed : Array Bool} {a : Act} {w : World} (hi : ops[i]? = some oi) (hd : oi.dst = some d)
    (hS : S w) (h : wpAnyH P md ops Q S fuel (listed.setIfInBounds i true) (a.put (some d) undef) w)
    (hs : Region.noSelect ops = true := by kernel_rfl) (hf : Region.free md ops listed i = true := by kernel_rfl) (hr : (Region.ready md ops listed).contains i = true := by kernel_rfl)
    (hw : Region.wanted oi (yielded ops a.tmps) = false := by kernel_rfl) (hQ : ∀ c a w, Q (.panic c) (a.put oi.dst undef) w → Q (.panic c) a w := by exact fun _ _ _ h => h) : wpAnyH P md ops Q S (fuel + 1) listed a w :=
  takeH i d hi hd hs hf hr hQ (Or.inr ⟨hw, rfl⟩) hS h
end
theorem lsT {α : Type _} (l : List α) (i : Nat) (a : α) : l.toArray.setIfInBounds i a = (l.set i a).toArray := List.setIfInBounds_toArray l i a
theorem lsZ {α : Type _} (a b : α) (l : List α) : (a :: l).set 0 b = b :: l := rfl
theorem lsS {α : Type _} (a b : α) (l : List α) (n : Nat) : (a :: l).set (n + 1) b = a :: l.set n b := rfl
end Go.Proofs.YtlonokcaddpniaaGreatDoor
namespace Go.Proofs.YtlonokcaddpniaaGreatDoor
open Go.RowKit
def strEnc (s : ByteArray) : List Value := [.string s]
theorem strEnc_len (p : ByteArray) : (strEnc p).length = 1 := rfl
theorem strEnc_one (p : ByteArray) : ∀ u ∈ strEnc p, u.oneCell' = true := by simp [strEnc, Value.oneCell']
end Go.Proofs.YtlonokcaddpniaaGreatDoor
namespace Go.Proofs.YtlonokcaddpniaaGreatDoor
open Go.RowKit Go.ChangeMaps Go.MapKept
open Go.Maps (Keyed)
/-- The type t of a map, its keys' type k and its elements' type e: how keys and elements are spelled. -/
structure MapT (P : Program) (t k e : TypeId) {κ ε : Type} (kv : κ → Value) (kl : κ → Lit) (ok : κ → Prop) (ev : ε → Value) (dec : Value → Option ε) (z : ε) : Prop where
  ht : P.underlying t = some (.map k e)
  K : Keyed P k
  hkey : ∀ x, ok x → keyOf P k (kv x) = some (kl x)
  inj : ∀ x y, ok x → ok y → kl x = kl y → x = y
  de : ∀ y, dec (ev y) = some y
  ed : ∀ v y, dec v = some y → v = ev y
  hz : ∀ w, (zeroValue e).run P w = .ok (ev z) w
/-- How an element reads. -/
def decR {ε : Type} (dec : Value → Option ε) (v : Value) : Option (DataW ε × List MemPlace) := (dec v).map (fun y => (.held y, []))
/-- Block b is a map of cnt entries that holds at the key x what h says. -/
def MapG {κ ε : Type} (P : Program) (k : TypeId) (kl : κ → Lit) (ok : κ → Prop) (dec : Value → Option ε) (w : World) (b : Nat) (h : κ → Option ε) (cnt : Nat) : Prop :=
  ∃ D : DataW ε, w.ownsMap P k (decR dec) b cnt D ∧ Maps.size D = cnt ∧ ∀ x, ok x → Maps.has D (kl x) = (h x).isSome ∧ ∀ y, h x = some y → ∀ z, D.atKey (kl x) z = .held y
theorem tight {H : Type} {P : Program} {k : TypeId} {R : Value → Option (DataW H × List MemPlace)} {w : World} {b n : Nat} {D : DataW H} (h : w.ownsMap P k R b n D) : w.ownsMap P k R b (Maps.size D) D := by
  obtain ⟨es, clock, hb, F, hs, rfl⟩ := h; exact ⟨es, clock, hb, F, by simp [Maps.size, length_sorted], rfl⟩
section
variable {κ ε : Type} {P : Program} {t k e : TypeId} {kv : κ → Value} {kl : κ → Lit} {ok : κ → Prop} {ev : ε → Value} {dec : Value → Option ε} {z : ε} {w w' : World} {b cnt : Nat} {h : κ → Option ε}
theorem MapG.made (w : World) : MapG P k kl ok dec (w.alloc (.map #[] 0)) w.heap.size (fun _ => none) 0 :=
  ⟨_, World.ownsMap_made w P k (decR dec), rfl, fun x _ => ⟨rfl, fun _ h => by cases h⟩⟩
theorem MapG.lt (m : MapG P k kl ok dec w b h cnt) : b < w.heap.size := by obtain ⟨D, h, _⟩ := m; exact h.lt
theorem MapG.keep (m : MapG P k kl ok dec w b h cnt) (hk : w'.heap[b]? = w.heap[b]?) : MapG P k kl ok dec w' b h cnt := by
  obtain ⟨D, ⟨es, clock, hb, r⟩, r2⟩ := m; exact ⟨D, ⟨es, clock, hk.trans hb, r⟩, r2⟩
theorem MapG.upd {S : Nat → Prop} (m : MapG P k kl ok dec w b h cnt) (hu : Upd S w w') (hs : ¬ S b) : MapG P k kl ok dec w' b h cnt := m.keep (hu.block b m.lt hs)
theorem MapG.pure (m : MapG P k kl ok dec w b h cnt) (hu : Below w.heap.size w w') : MapG P k kl ok dec w' b h cnt := m.keep (hu.block b m.lt)
theorem MapG.alloc (m : MapG P k kl ok dec w b h cnt) (o : Obj) : MapG P k kl ok dec (w.alloc o) b h cnt := m.pure ((Below.refl _ _).alloc (Nat.le_refl _) _)
theorem MapG.other (m : MapG P k kl ok dec w b h cnt) (p : Addr) (u : Value) (hne : b ≠ p.block) : MapG P k kl ok dec (w.setCell p u) b h cnt := m.keep (Below.heap_setCell _ _ _ _ hne)
theorem MapG.ext {h' : κ → Option ε} (m : MapG P k kl ok dec w b h cnt) (he : ∀ x, ok x → h' x = h x) : MapG P k kl ok dec w b h' cnt := by
  obtain ⟨D, h1, h2, h3⟩ := m; exact ⟨D, h1, h2, fun x hx => by rw [he x hx]; exact h3 x hx⟩
theorem MapT.isKey (T : MapT P t k e kv kl ok ev dec z) {x : κ} (hx : ok x) : WideAt.IsKeyLit (kl x) := T.K.key (T.hkey x hx)
/-- What a look-up finds. -/
theorem MapG.elem (T : MapT P t k e kv kl ok ev dec z) {x : κ} {D : DataW ε} (hd : Maps.has D (kl x) = (h x).isSome ∧ ∀ y, h x = some y → ∀ z, D.atKey (kl x) z = .held y) {v : Value} {ps : List MemPlace}
    (hv : decR dec v = some (D.atKey (kl x) (.held z), ps)) : v = ev ((h x).getD z) := by
  unfold decR at hv
  cases hdec : dec v with
  | none => rw [hdec] at hv; cases hv
  | some y =>
    rw [hdec] at hv; simp only [Option.map_some, Option.some.injEq, Prod.mk.injEq] at hv; rw [T.ed v y hdec]; congr 1
    cases hh : h x with
    | none =>
      have : Maps.has D (kl x) = false := by rw [hd.1, hh]; rfl
      have e1 := Maps.atKey_of_not_has this (.held z); rw [e1] at hv; injection hv.1
    | some y' =>
      have e1 := hd.2 y' hh (.held z); rw [e1] at hv; injection hv.1
variable [DecidableEq κ]
theorem MapG.put_law (T : MapT P t k e kv kl ok ev dec z) {D : DataW ε} {n : Nat} (hO : w.ownsMap P k (decR dec) b n D) (hd : ∀ x, ok x → Maps.has D (kl x) = (h x).isSome ∧ ∀ y, h x = some y → ∀ z, D.atKey (kl x) z = .held y) {x : κ} (hx : ok x) (y : ε) :
    ∀ u, ok u → Maps.has (D.put (kl x) (.held y)) (kl u) = (if u = x then some y else h u).isSome ∧ ∀ y', (if u = x then some y else h u) = some y' → ∀ z, (D.put (kl x) (.held y)).atKey (kl u) z = .held y' := by
  intro u hu; by_cases hux : u = x
  · subst hux; rw [if_pos rfl]; refine ⟨Maps.has_put_same hO.isMap (T.isKey hu) _, ?_⟩; intro y' hy z'; injection hy with hy; subst hy; exact Maps.atKey_put_same hO.isMap (T.isKey hu) _ _
  · rw [if_neg hux]; have hne : kl u ≠ kl x := fun e => hux (T.inj u x hu hx e)
    refine ⟨(Maps.has_put_other hne _).trans (hd u hu).1, fun y' hy z' => ?_⟩; rw [Maps.atKey_put_other hne]; exact (hd u hu).2 y' hy z'
end
section
variable {κ ε : Type} {P : Program} {t k e : TypeId} {kv : κ → Value} {kl : κ → Lit} {ok : κ → Prop} {ev : ε → Value} {dec : Value → Option ε} {z : ε}
variable (w : World) {ops : Array Oper} {rest : List Oper} {o : Oper} {a : Act} {Q : Exit → Act → World → Prop} {b cnt : Nat} {h : κ → Option ε}
variable [DecidableEq κ]
/-- 'm[k] = v'. -/
theorem wpList_putG (T : MapT P t k e kv kl ok ev dec z) (hg : o.guard = none) (m x v : Operand) (hop : o.op = Op.mapUpdate t m x v) (hm : a.eval m = .map (some b)) (M : MapG P k kl ok dec w b h cnt) (hn : cnt < maxLen) (u : κ) (y : ε) (hx : a.eval x = kv u) (hv : a.eval v = ev y) (hu : ok u)
    (hK : ∀ w', MapG P k kl ok dec w' b (fun i => if i = u then some y else h i) (if (h u).isSome then cnt else cnt + 1) → w.grownBy w' (some b) → wpList P ops Q rest (a.put o.dst undef) w') : wpList P ops Q (o :: rest) a w := by
  obtain ⟨D, h1, h2, h3⟩ := M; refine wpList_mapUpdate_own w hg m x v t hop k e T.K T.ht (decR dec) b cnt D hm h1 hn (kv u) (ev y) (kl u) hx hv (T.hkey u hu) (.held y) [] (by simp [decR, T.de]) ?_; intro w' g1 g2; have hsz := Maps.size_put (k := kl u) (h1.tidy T.K) (.held y); refine hK w' ⟨_, ?_, ?_, MapG.put_law T h1 h3 hu y⟩ g2
  · have g3 := tight g1; rw [hsz, (h3 u hu).1, h2] at g3; exact g3
  · rw [hsz, (h3 u hu).1, h2]
end
/-! ### maps from uint64 to a struct of one uint64 -/
end Go.Proofs.YtlonokcaddpniaaGreatDoor
namespace Go.Proofs.YtlonokcaddpniaaGreatDoor
open Go.ChangeShapes Go.WideShapes Go.ChangeAt Go.RowKit
theorem add_eq (a : Addr) (h : a.spot = none) (i : Nat) : a.add i = ⟨a.block, a.off + i, none⟩ := by
  obtain ⟨b, o, s⟩ := a; subst h; unfold Addr.add; split <;> simp_all
section
variable {H : Type} {enc : TypeId × Value → H} {P : Program} {w : World} {base : Nat} {spare : Nat → Bool} {held : Bool}
/-- A slice of integers that came in. -/
def intEnc (k : IntKind) (n : Int) : List Value := [.int k n]
end
/-- A number of a row of numbers, read. -/
theorem Slc.load {kd : IntKind} {w : World} {a : Option Addr} {n cap : Nat} {L : List Int} (h : Slc (intEnc kd) 1 w (.slice a n cap) L) (i : Nat) (hi : i < L.length) :
    ∃ g off, a = some ⟨g, off, none⟩ ∧ w.cell? ⟨g, off + i, none⟩ = some (.int kd L[i]) := by
  rcases h with ⟨_, _, hv, _, h0⟩ | ⟨g, off, cap', hv, _, _, hc⟩
  · rw [h0] at hi; simp at hi
  · simp only [Value.slice.injEq] at hv; refine ⟨g, off, hv.1, ?_⟩; have := hc i hi 0 (.int kd L[i]) rfl
    simpa using this
end Go.Proofs.YtlonokcaddpniaaGreatDoor
namespace Go.Proofs.YtlonokcaddpniaaGreatDoor
open Go.ChangeShapes Go.WideShapes Go.ChangeAt Go.RowKit
section
variable {H : Type} {enc : TypeId × Value → H} {P : Program} {w : World} {base : Nat} {spare : Nat → Bool} {held : Bool}
theorem field_int {k : IntKind} {m : Nat} {t o : Nat} {cs : List Value} {c : Value} (hi : P.underlying t = some (.int k)) (h1 : P.cellsOf t = 1) (hc : cs[o]? = some c) (h : ∃ z, DataW.trod enc P w base spare held m t ((cs.drop o).take (P.cellsOf t)) = some z) :
    ∃ a, c = .int k a ∧ (Lit.int k a).wf = true := by
  obtain ⟨z, h⟩ := h; obtain ⟨a, e, _, hw⟩ := DataW.trod_int hi h; refine ⟨a, ?_, hw⟩; rw [h1] at e; have : ((cs.drop o).take 1)[0]? = some c := by rw [List.getElem?_take]; simp [hc]
  rw [e] at this
  simpa using this.symm
theorem field_bool {m : Nat} {t o : Nat} {cs : List Value} {c : Value} (hi : P.underlying t = some .bool) (h1 : P.cellsOf t = 1) (hc : cs[o]? = some c) (h : ∃ z, DataW.trod enc P w base spare held m t ((cs.drop o).take (P.cellsOf t)) = some z) :
    ∃ a, c = .bool a := by
  obtain ⟨z, h⟩ := h; obtain ⟨a, e, _⟩ := DataW.trod_bool hi h; refine ⟨a, ?_⟩; rw [h1] at e; have : ((cs.drop o).take 1)[0]? = some c := by rw [List.getElem?_take]; simp [hc]
  rw [e] at this
  simpa using this.symm
theorem field_string {m : Nat} {t o : Nat} {cs : List Value} {c : Value} (hi : P.underlying t = some .string) (h1 : P.cellsOf t = 1) (hc : cs[o]? = some c) (h : ∃ z, DataW.trod enc P w base spare held m t ((cs.drop o).take (P.cellsOf t)) = some z) :
    ∃ s : ByteArray, c = .string s ∧ s.size ≤ maxLen := by
  obtain ⟨z, h⟩ := h; obtain ⟨s, e, _, hl⟩ := DataW.trod_string hi h; refine ⟨s, ?_, hl⟩; rw [h1] at e; have : ((cs.drop o).take 1)[0]? = some c := by rw [List.getElem?_take]; simp [hc]
  rw [e] at this
  simpa using this.symm
end
end Go.Proofs.YtlonokcaddpniaaGreatDoor
namespace Go.Proofs.YtlonokcaddpniaaGreatDoor
open Go.ChangeShapes Go.WideShapes Go.ChangeAt Go.RowKit
section
variable {H : Type} {enc : TypeId × Value → H} {P : Program} {w : World} {base : Nat} {spare : Nat → Bool} {held : Bool}
def boolEnc (b : Bool) : List Value := [.bool b]
end
end Go.Proofs.YtlonokcaddpniaaGreatDoor
