/- Slices that a call owns, of elements of several cells: what 'slices.Insert' asks: copy, append of zeros, room used. Conditions: bounds. -/
import Derived.Test.YtcelpincmpjhkaaOwnDel
import Derived.Test.YtcelpincmpjhkaaOwnSub
import Derived.Laws.IdiomCopy
import Derived.Lib.AppendZeros
import Derived.Lib.Overlaps
import Derived.Laws.Externs
namespace Go.Proofs.Ytcelpincmpjhkaa
open Go.RowKit
set_option linter.unusedVariables false

/-- copy, elements of m cells: n of them. -/
theorem run_copy_m {P : Program} {dT elem : TypeId} {m bytes : Nat} (w : World) (sT ty : TypeId) (b o dLen dCap : Nat) (a : Addr) (sLen sCap n : Nat) (cs : List Value)
    (hE : ElemT P dT elem m bytes) (hn : n = Nat.min sLen dLen) (hl : cs.length = n * m)
    (hsrc : ∀ j v, cs[j]? = some v → w.cell? (a.add j) = some v) (hc : ∀ j, j < cs.length → (w.cell? ⟨b, o + j, none⟩).isSome = true) (hf : ∀ j, j < cs.length → w.frozen? ⟨b, o + j, none⟩ = false) (h1 : ∀ v ∈ cs, v.oneCell' = true) :
    (Builtin.copy_ #[dT, sT] ty #[.slice (some ⟨b, o, none⟩) dLen dCap, .slice (some a) sLen sCap]).run P w = .ok (goInt n) (w.setCells b o cs) := by
  obtain ⟨i, z, hi, hz, hs, hby, hzs⟩ := hE.ex
  have hld := run_loadCells_list (P := P) w a cs hsrc
  have hst := run_storeCells_cells (P := P) b o cs 0 w (by simpa using hc) (by simpa using hf) h1
  rw [hl] at hld
  simp [Builtin.copy_, run_underlying hE.ht, Builtin.lenOf, Builtin.firstCells, sizeOf, typeInfo, hi, hs, ← hn, hld, hst]

/-- append of so many zeros, where there is no room. -/
theorem run_append_zeros_grow {P : Program} (w : World) (t tn ty e : TypeId) (i : TypeInfo) (z : Value) (k kn : IntKind) (ht : P.underlying t = some (.slice e)) (htn : P.underlying tn = some (.int kn)) (hi : P.info? e = some i) (hz : i.zero = some z)
    (b : Addr) (sLen sCap n : Nat) (olds : List Value) (hlo : olds.length = sLen * i.size) (holds : ∀ j v, olds[j]? = some v → w.cell? (b.add j) = some v)
    (h0 : 0 < n) (hs : 0 < i.size) (hg : sCap < sLen + n) (h63 : ((sLen + n : Nat) : Int) ≤ 9223372036854775807) (hfit : Builtin.nextslicecap (sLen + n) sCap * i.bytes ≤ 281474976710656) (h48 : n * i.bytes ≤ 281474976710656) :
    (Builtin.append_ #[t, tn] ty #[.slice (some b) sLen sCap, .int k n]).run P w =
      .ok (.slice (some ⟨w.heap.size, 0, none⟩) (sLen + n) (grownCap w (sLen + n) sCap e)) (w.drew.alloc (.cells (olds.toArray ++ Builtin.zeroCells z.cells n ++ Builtin.zeroCells z.cells (grownCap w (sLen + n) sCap e - (sLen + n))) e)) := by
  have hn : ¬ (sLen + n ≤ sCap) := by omega
  have hn0 : n ≠ 0 := by omega
  have hw : IntKind.i64.wrap (n : Int) = n := by rw [IntKind.wrap_i64]; omega
  have h63' : ¬ (9223372036854775807 < ((sLen : Int) + (n : Int))) := by omega
  have h48' : ¬ (281474976710656 < Builtin.nextslicecap (sLen + n) sCap * i.bytes) := by omega
  have h48i : ¬ (281474976710656 < (n : Int) * (i.bytes : Int)) := by
    rw [← Int.natCast_mul]
    omega
  have hneg : ¬ ((n : Int) < 0) := by omega
  have hns : ¬ (n * i.size = 0) := Nat.mul_ne_zero hn0 (by omega)
  have hfo := run_firstCells_some (P := P) w.drew i.size sLen b sLen sCap olds hlo (by simpa using holds)
  simp [Builtin.append_, run_underlying ht, run_underlying htn, sizeOf, typeInfo, zeroValue, hi, hz, asInt, asIntOf, hw, hn, hneg, hns, h63', h48', h48i, Question.forced, hfo, newRow, grownCap]

theorem zeroCells_len (z : Array Value) (n : Nat) : (Builtin.zeroCells z n).size = n * z.size := by simp [Builtin.zeroCells]

/-- What such an append leaves, as a slice of the call's own. -/
theorem own_zeros {base : Nat} {e : TypeId} {m : Nat} (w : World) (olds : List Value) (z : Array Value) (k n cap : Nat) (hz : z.size = m) (ho : olds.length = k * m) (hb : base ≤ w.heap.size) (hn : k + n ≤ cap) (hc : cap ≤ maxLen) :
    (w.alloc (.cells (olds.toArray ++ Builtin.zeroCells z n ++ Builtin.zeroCells z (cap - (k + n))) e)).ownsRow base e m (.slice (some ⟨w.heap.size, 0, none⟩) (k + n) cap) (k + n) (olds ++ (Builtin.zeroCells z n).toList) := by
  have e1 : (k + n) * m = k * m + n * m := Nat.add_mul k n m
  have e2 : k * m + n * m + (cap - (k + n)) * m = cap * m := by rw [← Nat.add_mul, ← Nat.add_mul]; congr 1; omega
  refine ⟨by rw [List.length_append, ho, Array.length_toList, zeroCells_len, hz, e1], .inr ⟨w.heap.size, cap, _, rfl, hb, heap_alloc_new w _, hn, hc, ?_, ?_⟩⟩
  · simp only [Array.size_append, zeroCells_len, hz, List.size_toArray, ho]; exact e2
  · rw [Array.toList_append, Array.toList_append]
    have hl : (olds.toArray.toList ++ (Builtin.zeroCells z n).toList).length = (k + n) * m := by
      simp only [List.length_append, Array.length_toList, zeroCells_len, hz, List.size_toArray, ho, e1]
    rw [List.take_append_of_le_length (by rw [hl]; exact Nat.le_refl _), List.take_of_length_le (by rw [hl]; exact Nat.le_refl _)]

/-- The room behind a slice of the call's own, taken. -/
theorem grow_own {base : Nat} {e : TypeId} {m n cap g : Nat} {w : World} {xs : List Value} (h : w.ownsRow base e m (.slice (some ⟨g, 0, none⟩) n cap) n xs) (hn : n + 1 ≤ cap) :
    ∃ ex : List Value, ex.length = m ∧ w.ownsRow base e m (.slice (some ⟨g, 0, none⟩) (n + 1) cap) (n + 1) (xs ++ ex) := by
  obtain ⟨h1, h2⟩ := h
  rcases h2 with ⟨h2, _⟩ | ⟨g', cap', cur, hv, hb, hg, k1, k2, k3, k4⟩
  · simp at h2
  · simp only [Value.slice.injEq, Option.some.injEq, Addr.mk.injEq, and_true, true_and] at hv
    obtain ⟨rfl, rfl⟩ := hv
    have e1 : (n + 1) * m = n * m + m := Nat.succ_mul n m
    have e2 : (n + 1) * m ≤ cap * m := Nat.mul_le_mul_right m hn
    refine ⟨(cur.toList.drop (n * m)).take m, ?_, ?_, .inr ⟨g, cap, cur, rfl, hb, hg, hn, k2, k3, ?_⟩⟩
    · rw [List.length_take, List.length_drop, Array.length_toList, k3]; omega
    · rw [List.length_append, h1, List.length_take, List.length_drop, Array.length_toList, k3, e1]; omega
    · rw [e1, List.take_add, k4]

/-- The list that Insert leaves. -/
theorem splice_in {α : Type} {enc : α → List Value} {m : Nat} (hm : ∀ x, (enc x).length = m) (L : List α) (i : Nat) (hi : i ≤ L.length) (x : α) (ys : List Value) (hy : ys.length = (L.length + 1) * m) (hp : ys.take (i * m) = (L.take i).flatMap enc) :
    splice (splice ys (i * m) (enc x)) ((i + 1) * m) ((L.drop i).flatMap enc) = (L.take i ++ x :: L.drop i).flatMap enc ∧
    splice (splice ys ((i + 1) * m) ((L.drop i).flatMap enc)) (i * m) (enc x) = (L.take i ++ x :: L.drop i).flatMap enc := by
  have hd : ((L.drop i).flatMap enc).length = (L.length - i) * m := by rw [flat_len hm, List.length_drop]
  have e1 : (i + 1) * m = i * m + m := Nat.succ_mul i m
  have e2 : (i + 1) * m + (L.length - i) * m = (L.length + 1) * m := by rw [← Nat.add_mul]; congr 1; omega
  have hx := hm x
  rw [List.flatMap_append, List.flatMap_cons, ← hp]
  have ht : (ys.take (i * m)).length = i * m := by rw [List.length_take, hy]; have := Nat.mul_le_mul_right m hi; rw [Nat.succ_mul]; omega
  have hle : i * m ≤ L.length * m := Nat.mul_le_mul_right m hi
  have e3 : (L.length + 1) * m = L.length * m + m := Nat.succ_mul _ _
  constructor
  · have hZ : (ys.take (i * m) ++ enc x).length = (i + 1) * m := by rw [List.length_append, ht, hx, e1]
    rw [splice_eq _ _ _ (by rw [splice_len, hy, hd]; omega), splice_eq _ _ _ (by rw [hx, hy]; omega)]
    rw [List.take_left' hZ, List.drop_eq_nil_of_le (as := ys.take (i * m) ++ enc x ++ _) (by rw [List.length_append, hZ, hd, List.length_drop, hy, hx]; omega), List.append_nil, List.append_assoc]
  · have hl1 : (ys.take ((i + 1) * m)).length = (i + 1) * m := by rw [List.length_take, hy]; omega
    rw [splice_eq _ _ _ (by rw [splice_len, hx, hy]; omega), splice_eq _ _ _ (by rw [hd, hy]; omega)]
    have e4 : List.drop ((i + 1) * m + ((L.drop i).flatMap enc).length) ys = [] := List.drop_eq_nil_of_le (by rw [hd, hy]; omega)
    rw [e4, List.append_nil, hx, ← e1, List.drop_left' hl1, List.take_append_of_le_length (by rw [hl1]; omega), List.take_take, Nat.min_eq_left (by omega), List.append_assoc]
theorem Own.toRow {α : Type} {base : Nat} {e : TypeId} {m : Nat} {enc : α → List Value} {w : World} {v : Value} {L : List α} {n : Nat} {xs : List Value} (h : w.ownsRow base e m v n xs) (hn : n = L.length) (hx : xs = L.flatMap enc) : Own base e m enc w v L := by
  subst hn hx; exact h
theorem row_cells {base : Nat} {e : TypeId} {m n cap g : Nat} {w : World} {xs : List Value} (h : w.ownsRow base e m (.slice (some ⟨g, 0, none⟩) n cap) n xs) (t : Nat) (u : Value) (hu : xs[t]? = some u) : w.cell? ⟨g, t, none⟩ = some u := by
  have := World.ownsRow.cells h (g := g) rfl t u hu
  have e : (⟨g, 0, none⟩ : Addr).add t = ⟨g, t, none⟩ := by unfold Addr.add; split <;> simp_all
  rw [← e]; exact this
theorem row_frozen {base : Nat} {e : TypeId} {m n cap g : Nat} {w : World} {xs : List Value} (h : w.ownsRow base e m (.slice (some ⟨g, 0, none⟩) n cap) n xs) (t : Nat) : w.frozen? ⟨g, t, none⟩ = false := by
  rcases h.2 with ⟨h', _⟩ | ⟨g', cap', cur, h', hb', hg', _⟩
  · simp at h'
  · simp only [Value.slice.injEq, Option.some.injEq, Addr.mk.injEq, and_true, true_and] at h'
    obtain ⟨rfl, _⟩ := h'
    simp [World.frozen?, hg']
theorem row_shape {base : Nat} {e : TypeId} {m n cap g : Nat} {w : World} {xs : List Value} (h : w.ownsRow base e m (.slice (some ⟨g, 0, none⟩) n cap) n xs) : w.shape? g = some (e, cap * m) := by
  rcases h.2 with ⟨h', _⟩ | ⟨g', cap', cur, h', hb', hg', _, _, hs, _⟩
  · simp at h'
  · simp only [Value.slice.injEq, Option.some.injEq, Addr.mk.injEq, and_true, true_and] at h'
    obtain ⟨rfl, rfl⟩ := h'
    simp [World.shape?, hg', hs]
theorem Blk.shape {w : World} {b : Nat} {cs : List Value} (h : Blk w b cs) : ∃ T, w.shape? b = some (T, cs.length) := by
  obtain ⟨T, h⟩ := h; exact ⟨T, by simp [World.shape?, h]⟩
end Go.Proofs.Ytcelpincmpjhkaa
