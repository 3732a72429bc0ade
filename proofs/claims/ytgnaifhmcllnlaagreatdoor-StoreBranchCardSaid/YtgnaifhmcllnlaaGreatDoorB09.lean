/- slices.Delete of one element at []api.BranchRow. Conditions: the slice is the call's own. Written by gen_delete.py. (Texts joined.) -/
import Derived.Lib.AppendZeros
import Derived.Lib.Overlaps
import Derived.Test.YtgnaifhmcllnlaaGreatDoorB08
set_option maxRecDepth 100000
set_option maxHeartbeats 6400000
set_option linter.unusedSimpArgs false
set_option linter.unusedVariables false
namespace Go.Proofs.YtgnaifhmcllnlaaGreatDoor
open Go.RowKit Tryz
def abg (xs : List Value) : Nat → List Value → List Value
 | _, [] => xs
 | o, v :: vs => abg (xs.set o v) (o + 1) vs
theorem ab7 : ∀ (vs : List Value) (xs : List Value) (o : Nat), (abg xs o vs).length = xs.length
 | [], _, _ => rfl
 | v :: vs, xs, o => by rw [abg, ab7 vs]; simp
theorem als : ∀ (vs : List Value) (xs : List Value) (o j : Nat), j < xs.length → (abg xs o vs)[j]? = if o ≤ j ∧ j < o + vs.length then vs[j - o]? else xs[j]?
 | [], xs, o, j, _ => by rw [abg, qk (by simp)]
 | v :: vs, xs, o, j, hj => by
  rw [abg, als vs _ _ _ (by simpa using hj)]; by_cases h1 : o + 1 ≤ j ∧ j < o + 1 + vs.length
  ·rw [qw h1, qw (by simp; omega), show j - o = (j - (o + 1)) + 1 by omega, List.getElem?_cons_succ]
  ·rw [qk h1]
   by_cases h2 : j = o
   ·subst h2; rw [qw (by simp), List.getElem?_set_self hj]; simp
   ·rw [List.getElem?_set_ne (fun e => h2 e.symm), qk (by simp; omega)]
theorem abh {base : Nat} {e : TypeId} {m n cap g : Nat} : ∀ (vs : List Value) (o : Nat) (w : World) (xs : List Value), w.ownsRow base e m (.slice (some ⟨g, 0, none⟩) n cap) n xs →
 (w.setCells g o vs).ownsRow base e m (.slice (some ⟨g, 0, none⟩) n cap) n (abg xs o vs)
 | [], _, _, _, h => h
 | v :: vs, o, w, xs, h => by
  rw [abg]; exact abh vs (o + 1) _ _ (World.ownsRow.stored h o v).1
theorem abz {S : Nat → Prop} {g : Nat} (hg : S g) : ∀ (vs : List Value) (o : Nat) (w : World), Upd S w (w.setCells g o vs)
 | [], _, _ => Upd.refl _ _
 | v :: vs, o, _ => (Upd.set (S := S) (p := ⟨g, o, none⟩) hg v).trans (abz hg vs (o + 1) _) (fun _ h _ => h)
theorem apm {base : Nat} {e : TypeId} {m n n' cap g : Nat} {w : World} {xs : List Value} (h : w.ownsRow base e m (.slice (some ⟨g, 0, none⟩) n cap) n xs) (hn : n' ≤ n) :
 w.ownsRow base e m (.slice (some ⟨g, 0, none⟩) n' cap) n' (xs.take (n' * m)) := by
 obtain ⟨h1, h2⟩ := h
 have hm : n' * m ≤ n * m := Nat.mul_le_mul_right m hn
 refine ⟨by rw [List.length_take]; omega, ?_⟩
 rcases h2 with ⟨h2, _⟩ | ⟨g', cap', cur, hv, hb, hg, k1, k2, k3, k4⟩
 ·simp at h2
 ·simp only [Value.slice.injEq, jy, Addr.mk.injEq, and_true, true_and] at hv
  obtain ⟨rfl, rfl⟩ := hv; refine .inr ⟨g, cap, cur, rfl, hb, hg, by omega, k2, k3, ?_⟩; rw [← k4, List.take_take, Nat.min_eq_left hm]
theorem aee {α : Type} {enc : α → List Value} {m : Nat} (hm : ∀ x, (enc x).length = m) : ∀ (L : List α) (j : Nat), (L.drop j).flatMap enc = (L.flatMap enc).drop (j * m)
 | [], j => by simp
 | x :: L, 0 => by simp
 | x :: L, j + 1 => by
  rw [List.drop_succ_cons, aee hm L j, List.flatMap_cons, List.drop_append, List.drop_eq_nil_of_le («as» := enc x) (by rw [hm, Nat.add_mul]; omega), List.nil_append]; congr 1; rw [hm, Nat.add_mul]; omega
theorem ag8 {α : Type} {enc : α → List Value} {m : Nat} (hm : ∀ x, (enc x).length = m) : ∀ (L : List α) (j : Nat), (L.take j).flatMap enc = (L.flatMap enc).take (j * m)
 | [], j => by simp
 | x :: L, 0 => by simp
 | x :: L, j + 1 => by
  rw [List.take_succ_cons, List.flatMap_cons, ag8 hm L j, List.flatMap_cons, List.take_append, List.take_of_length_le (l := enc x) (by rw [hm, Nat.add_mul]; omega)]; congr 2; rw [hm, Nat.add_mul]; omega
theorem aef (vs xs : List Value) (o : Nat) (h : o + vs.length ≤ xs.length) : abg xs o vs = xs.take o ++ vs ++ xs.drop (o + vs.length) := by
 apply List.ext_getElem?
 intro j
 by_cases hj : j < xs.length
 ·rw [als _ _ _ _ hj]
  by_cases h1 : o ≤ j ∧ j < o + vs.length
  ·rw [qw h1, List.append_assoc, List.getElem?_append_right (by rw [List.length_take]; omega), List.getElem?_append_left (by rw [List.length_take]; omega), List.length_take, Nat.min_eq_left (by omega)]
  ·rw [qk h1]
   by_cases h2 : j < o
   ·rw [List.append_assoc, List.getElem?_append_left (by rw [List.length_take]; omega), List.getElem?_take, qw h2]
   ·rw [List.getElem?_append_right (by simp; omega), List.getElem?_drop]
    congr 1; simp; omega
 ·rw [List.getElem?_eq_none (by rw [ab7]; omega), List.getElem?_eq_none (by simp; omega)]
theorem ahs {α : Type} {enc : α → List Value} {m : Nat} (hm : ∀ x, (enc x).length = m) (L : List α) (i : Nat) (hi : i < L.length) (z : List Value) (hz : z.length = m) :
 (abg (abg (L.flatMap enc) (i * m) ((L.drop (i + 1)).flatMap enc)) ((L.length - 1) * m) z).take ((L.length - 1) * m) = (L.eraseIdx i).flatMap enc := by
 have hl := abp hm L
 have hl2 := abp hm (L.drop (i + 1))
 have e1 : (L.length - 1) * m + m = L.length * m := by
  rw [← Nat.succ_mul]; congr 1; omega
 have e2 : (i + 1) * m + (L.length - (i + 1)) * m = L.length * m := by
  rw [← Nat.add_mul]; congr 1; omega
 have e3 : (i + 1) * m = i * m + m := Nat.succ_mul i m
 rw [List.length_drop] at hl2
 have e4 : i * m + (L.length - (i + 1)) * m = (L.length - 1) * m := by rw [← Nat.add_mul]; congr 1; omega
 rw [aef _ _ _ (by rw [ab7, hl, hz]; omega), aef _ _ _ (by rw [hl, hl2]; omega), List.append_assoc, List.take_append_of_le_length (by rw [List.length_take, jz, jz, List.length_take, List.length_drop, hl, hl2]; omega)]
 rw [List.take_take, Nat.min_self, List.take_append_of_le_length (by rw [jz, List.length_take, hl, hl2]; omega), List.take_of_length_le (by rw [jz, List.length_take, hl, hl2]; omega)]
 rw [List.eraseIdx_eq_take_drop_succ, List.flatMap_append, ag8 hm]
theorem aev {P : Program} (w : World) (t e ty : TypeId) (z : Value) (zs : List Value) (ht : P.underlying t = some (.slice e)) (hv : ∀ w, (zeroValue e).run P w = .ok z w) (hz : z.cells = zs.toArray) (h1 : ∀ v ∈ zs, v.oneCell' = true) (b o n c : Nat) (hn : n = 1)
 (hc : ∀ j, j < zs.length → (w.cell? ⟨b, o + j, none⟩).isSome = true) (hf : ∀ j, j < zs.length → w.frozen? ⟨b, o + j, none⟩ = false) :
 (Builtin.clear_ #[t] ty #[.slice (some ⟨b, o, none⟩) n c]).run P w = .ok (.tuple #[]) (w.setCells b o zs) := by
 subst hn
 have hzc : (Builtin.zeroCells z.cells 1).toList = zs := by
  rw [hz]; simp [Builtin.zeroCells]; apply List.ext_getElem
  ·simp
  ·intro i h1 h2
   have : i % zs.length = i := Nat.mod_eq_of_lt h2; simp [this, h2]
 have hst := run_storeCells_cells (P := P) b o zs 0 w (by simpa using hc) (by simpa using hf) h1
 simp only [Nat.add_zero] at hst
 simp [Builtin.clear_, run_underlying ht, hv, hzc, hst]
theorem afr {P : Program} {dT elem : TypeId} {m bytes : Nat} (w : World) (sT ty : TypeId) (b o dLen dCap : Nat) (a : Addr) (sLen sCap n : Nat) (cs : List Value)
 (hE : ElemT P dT elem m bytes) (hn : n = Nat.min sLen dLen) (hl : cs.length = n * m)
 (hsrc : ∀ j v, cs[j]? = some v → w.cell? (a.add j) = some v) (hc : ∀ j, j < cs.length → (w.cell? ⟨b, o + j, none⟩).isSome = true) (hf : ∀ j, j < cs.length → w.frozen? ⟨b, o + j, none⟩ = false) (h1 : ∀ v ∈ cs, v.oneCell' = true) :
 (Builtin.copy_ #[dT, sT] ty #[.slice (some ⟨b, o, none⟩) dLen dCap, .slice (some a) sLen sCap]).run P w = .ok (goInt n) (w.setCells b o cs) := by
 obtain ⟨i, z, hi, hz, hs, hby, hzs⟩ := hE.ex
 have hld := run_loadCells_list (P := P) w a cs hsrc
 have hst := run_storeCells_cells (P := P) b o cs 0 w (by simpa using hc) (by simpa using hf) h1
 rw [hl] at hld
 simp [Builtin.copy_, run_underlying hE.ht, Builtin.lenOf, Builtin.firstCells, sizeOf, typeInfo, hi, hs, ← hn, hld, hst]
theorem afb {P : Program} (w : World) (t tn ty e : TypeId) (i : TypeInfo) (z : Value) (k kn : IntKind) (ht : P.underlying t = some (.slice e)) (htn : P.underlying tn = some (.int kn)) (hi : P.info? e = some i) (hz : i.zero = some z)
 (b : Addr) (sLen sCap n : Nat) (olds : List Value) (hlo : olds.length = sLen * i.size) (holds : ∀ j v, olds[j]? = some v → w.cell? (b.add j) = some v)
 (h0 : 0 < n) (hs : 0 < i.size) (hg : sCap < sLen + n) (h63 : ((sLen + n : Nat) : Int) ≤ 9223372036854775807) (hfit : Builtin.nextslicecap (sLen + n) sCap * i.bytes ≤ 281474976710656) (h48 : n * i.bytes ≤ 281474976710656) :
 (Builtin.append_ #[t, tn] ty #[.slice (some b) sLen sCap, .int k n]).run P w =
  .ok (.slice (some ⟨w.heap.size, 0, none⟩) (sLen + n) (grownCap w (sLen + n) sCap e)) (w.drew.alloc (.cells (olds.toArray ++ Builtin.zeroCells z.cells n ++ Builtin.zeroCells z.cells (grownCap w (sLen + n) sCap e - (sLen + n))) e)) := by
 have hn : ¬ (sLen + n ≤ sCap) := by omega
 have hn0 : n ≠ 0 := by omega
 have hw : IntKind.i64.wrap (n : Int) = n := by rw [IntKind.wrap_i64]; omega
 have h63' : ¬ (9223372036854775807 < ((sLen : Int) + (n : Int))) := by omega
 have h48' : ¬ (281474976710656 < Builtin.nextslicecap (sLen + n) sCap * i.bytes) := by omega
 have h48i : ¬ (281474976710656 < (n : Int) * (i.bytes : Int)) := by
  rw [← Int.natCast_mul]; omega
 have hneg : ¬ ((n : Int) < 0) := by omega
 have hns : ¬ (n * i.size = 0) := Nat.mul_ne_zero hn0 (by omega)
 have hfo := run_firstCells_some (P := P) w.drew i.size sLen b sLen sCap olds hlo (by simpa using holds)
 simp [Builtin.append_, run_underlying ht, run_underlying htn, sizeOf, typeInfo, zeroValue, hi, hz, asInt, asIntOf, hw, hn, hneg, hns, h63', h48', h48i, Question.forced, hfo, newRow, grownCap]
theorem ads (z : Array Value) (n : Nat) : (Builtin.zeroCells z n).size = n * z.size := by simp [Builtin.zeroCells]
theorem auq {base : Nat} {e : TypeId} {m : Nat} (w : World) (olds : List Value) (z : Array Value) (k n cap : Nat) (hz : z.size = m) (ho : olds.length = k * m) (hb : base ≤ w.heap.size) (hn : k + n ≤ cap) (hc : cap ≤ maxLen) :
 (w.alloc (.cells (olds.toArray ++ Builtin.zeroCells z n ++ Builtin.zeroCells z (cap - (k + n))) e)).ownsRow base e m (.slice (some ⟨w.heap.size, 0, none⟩) (k + n) cap) (k + n) (olds ++ (Builtin.zeroCells z n).toList) := by
 have e1 : (k + n) * m = k * m + n * m := Nat.add_mul k n m
 have e2 : k * m + n * m + (cap - (k + n)) * m = cap * m := by rw [← Nat.add_mul, ← Nat.add_mul]; congr 1; omega
 refine ⟨by rw [jz, ho, Array.length_toList, ads, hz, e1], .inr ⟨w.heap.size, cap, _, rfl, hb, heap_alloc_new w _, hn, hc, ?_, ?_⟩⟩
 ·simp only [Array.size_append, ads, hz, List.size_toArray, ho]; exact e2
 ·rw [Array.toList_append, Array.toList_append]
  have hl : (olds.toArray.toList ++ (Builtin.zeroCells z n).toList).length = (k + n) * m := by
   simp only [jz, Array.length_toList, ads, hz, ho, e1]
  rw [List.take_append_of_le_length (by rw [hl]; exact qj _), List.take_of_length_le (by rw [hl]; exact qj _)]
theorem axk {base : Nat} {e : TypeId} {m n cap g : Nat} {w : World} {xs : List Value} (h : w.ownsRow base e m (.slice (some ⟨g, 0, none⟩) n cap) n xs) (hn : n + 1 ≤ cap) :
 ∃ ex : List Value, ex.length = m ∧ w.ownsRow base e m (.slice (some ⟨g, 0, none⟩) (n + 1) cap) (n + 1) (xs ++ ex) := by
 obtain ⟨h1, h2⟩ := h
 rcases h2 with ⟨h2, _⟩ | ⟨g', cap', cur, hv, hb, hg, k1, k2, k3, k4⟩
 ·simp at h2
 ·simp only [Value.slice.injEq, jy, Addr.mk.injEq, and_true, true_and] at hv
  obtain ⟨rfl, rfl⟩ := hv; have e1 : (n + 1) * m = n * m + m := Nat.succ_mul n m; have e2 : (n + 1) * m ≤ cap * m := Nat.mul_le_mul_right m hn; refine ⟨(cur.toList.drop (n * m)).take m, ?_, ?_, .inr ⟨g, cap, cur, rfl, hb, hg, hn, k2, k3, ?_⟩⟩
  ·rw [List.length_take, List.length_drop, Array.length_toList, k3]; omega
  ·rw [jz, h1, List.length_take, List.length_drop, Array.length_toList, k3, e1]; omega
  ·rw [e1, List.take_add, k4]
theorem anu {α : Type} {enc : α → List Value} {m : Nat} (hm : ∀ x, (enc x).length = m) (L : List α) (i : Nat) (hi : i ≤ L.length) (x : α) (ys : List Value) (hy : ys.length = (L.length + 1) * m) (hp : ys.take (i * m) = (L.take i).flatMap enc) :
 abg (abg ys (i * m) (enc x)) ((i + 1) * m) ((L.drop i).flatMap enc) = (L.take i ++ x :: L.drop i).flatMap enc ∧
 abg (abg ys ((i + 1) * m) ((L.drop i).flatMap enc)) (i * m) (enc x) = (L.take i ++ x :: L.drop i).flatMap enc := by
 have hd : ((L.drop i).flatMap enc).length = (L.length - i) * m := by rw [abp hm, List.length_drop]
 have e1 : (i + 1) * m = i * m + m := Nat.succ_mul i m
 have e2 : (i + 1) * m + (L.length - i) * m = (L.length + 1) * m := by rw [← Nat.add_mul]; congr 1; omega
 have hx := hm x
 rw [List.flatMap_append, List.flatMap_cons, ← hp]
 have ht : (ys.take (i * m)).length = i * m := by rw [List.length_take, hy]; have := Nat.mul_le_mul_right m hi; rw [Nat.succ_mul]; omega
 have hle : i * m ≤ L.length * m := Nat.mul_le_mul_right m hi
 have e3 : (L.length + 1) * m = L.length * m + m := Nat.succ_mul _ _
 constructor
 ·have hZ : (ys.take (i * m) ++ enc x).length = (i + 1) * m := by rw [jz, ht, hx, e1]
  rw [aef _ _ _ (by rw [ab7, hy, hd]; omega), aef _ _ _ (by rw [hx, hy]; omega)]; rw [List.take_left' hZ, List.drop_eq_nil_of_le («as» := ys.take (i * m) ++ enc x ++ _) (by rw [jz, hZ, hd, List.length_drop, hy, hx]; omega), List.append_nil, List.append_assoc]
 ·have hl1 : (ys.take ((i + 1) * m)).length = (i + 1) * m := by rw [List.length_take, hy]; omega
  rw [aef _ _ _ (by rw [ab7, hx, hy]; omega), aef _ _ _ (by rw [hd, hy]; omega)]; have e4 : List.drop ((i + 1) * m + ((L.drop i).flatMap enc).length) ys = [] := List.drop_eq_nil_of_le (by rw [hd, hy]; omega); rw [e4, List.append_nil, hx, ← e1, List.drop_left' hl1, List.take_append_of_le_length (by rw [hl1]; omega), List.take_take, Nat.min_eq_left (by omega), List.append_assoc]
theorem Own.toRow {α : Type} {base : Nat} {e : TypeId} {m : Nat} {enc : α → List Value} {w : World} {v : Value} {L : List α} {n : Nat} {xs : List Value} (h : w.ownsRow base e m v n xs) (hn : n = L.length) (hx : xs = L.flatMap enc) : Own base e m enc w v L := by
 subst hn hx; exact h
theorem adx {base : Nat} {e : TypeId} {m n cap g : Nat} {w : World} {xs : List Value} (h : w.ownsRow base e m (.slice (some ⟨g, 0, none⟩) n cap) n xs) (t : Nat) (u : Value) (hu : xs[t]? = some u) : w.cell? ⟨g, t, none⟩ = some u := by
 have := World.ownsRow.cells h (g := g) rfl t u hu
 have e : (⟨g, 0, none⟩ : Addr).add t = ⟨g, t, none⟩ := by unfold Addr.add; split <;> simp_all
 rw [← e]; exact this
theorem afs {base : Nat} {e : TypeId} {m n cap g : Nat} {w : World} {xs : List Value} (h : w.ownsRow base e m (.slice (some ⟨g, 0, none⟩) n cap) n xs) (t : Nat) : w.frozen? ⟨g, t, none⟩ = false := by
 rcases h.2 with ⟨h', _⟩ | ⟨g', cap', cur, h', hb', hg', _⟩
 ·simp at h'
 ·simp only [Value.slice.injEq, jy, Addr.mk.injEq, and_true, true_and] at h'
  obtain ⟨rfl, _⟩ := h'; simp [World.frozen?, hg']
theorem anv {base : Nat} {e : TypeId} {m n cap g : Nat} {w : World} {xs : List Value} (h : w.ownsRow base e m (.slice (some ⟨g, 0, none⟩) n cap) n xs) : w.shape? g = some (e, cap * m) := by
 rcases h.2 with ⟨h', _⟩ | ⟨g', cap', cur, h', hb', hg', _, _, hs, _⟩
 ·simp at h'
 ·simp only [Value.slice.injEq, jy, Addr.mk.injEq, and_true, true_and] at h'
  obtain ⟨rfl, rfl⟩ := h'; simp [World.shape?, hg', hs]
theorem Blk.shape {w : World} {b : Nat} {cs : List Value} (h : Blk w b cs) : ∃ T, w.shape? b = some (T, cs.length) := by
 obtain ⟨T, h⟩ := h; exact ⟨T, by simp [World.shape?, h]⟩
theorem anw {P : Program} (w : World) {o : Oper} {a : Act} {K : Act → World → Prop} {Q : Exit → Act → World → Prop} (d s : Operand) (t t' : TypeId)
 (ho : o.op = .call { callee := .builtin .copy, args := #[d, s], argTypes := #[t, t'] }) (v u : Value) (hd : a.eval d = v) (hs : a.eval s = u) {v' : Value} {w' : World}
 (hr : (Builtin.copy_ #[t, t'] o.type #[v, u]).run P w = .ok v' w') (h : K (a.put o.dst v') w') : o.wp P a w K Q := by
 unfold Oper.wp execOp
 simp only [ho, resolve, invoke, builtin, Sem.run_bind, Sem.run_pure, Result.andThen_ok, List.map_toArray, List.map_cons, List.map_nil, hd, hs, hr]
 exact h
theorem acp {P : Program} (w : World) {ops : Array Oper} {rest : List Oper} {o : Oper} {a : Act} {Q : Exit → Act → World → Prop} (hgd : o.guard = none) (d s : Operand) (t t' : TypeId)
 (ho : o.op = .call { callee := .builtin .copy, args := #[d, s], argTypes := #[t, t'] }) (v u : Value) (hd : a.eval d = v) (hs : a.eval s = u) {v' : Value} {w' : World}
 (hr : (Builtin.copy_ #[t, t'] o.type #[v, u]).run P w = .ok v' w') (h : wpList P ops Q rest (a.put o.dst v') w') : wpList P ops Q (o :: rest) a w :=
 wpList_plain hgd fun _ hK => anw w d s t t' ho v u hd hs hr (hK _ _ h)
theorem adc {P : Program} {ops : Array Oper} {o : Oper} {a : Act} {w : World} {K : Act → World → Prop} {Q : Exit → Act → World → Prop} {Z : Prop}
 (hg : o.guard = none) (d x : Operand) (dT sT : TypeId) (hop : o.op = Op.call { callee := Callee.builtin Builtin.copy, args := #[d, x], argTypes := #[dT, sT] })
 (v u : Value) (hd : a.eval d = v) (hx : a.eval x = u) {v' : Value} {w' : World} (hr : (Builtin.copy_ #[dT, sT] o.type #[v, u]).run P w = .ok v' w') (hK : K (a.put o.dst v') w') :
 if Region.wanted o (yielded ops a.tmps) = true then Oper.wp P o a w K Q else Z := by
 have hw : Region.wanted o (yielded ops a.tmps) = true := by simp [Region.wanted, hg]
 rw [qw hw]
 unfold Oper.wp
 simp [execOp, hop, resolve, invoke, builtin, hd, hx, hr, Result.andThen]
 exact hK
section
variable {P : Program} {α : Type} {enc : α → List Value} {m T E by_ base : Nat}
def aj6 (E m base : Nat) (enc : α → List Value) (w : World) (v : Value) (L : List α) (e : Ending) (w' : World) : Prop :=
 ∃ r, e = .returned r ∧ Own base E m enc w' r L ∧ Upd (fun k => v.ownBlock = some k) w w' ∧ (∀ k, r.ownBlock = some k → v.ownBlock = some k ∨ w.heap.size ≤ k)
theorem anx (g o j : Nat) : (⟨g, o, none⟩ : Addr).add j = ⟨g, o + j, none⟩ := by unfold Addr.add; split <;> simp_all
theorem aew {P : Prop} (h : P := by
 rcases h.cases with ⟨h', _⟩ | ⟨g', cap', h', _, _, k1, k2⟩
 ·simp at h'
 ·simp only [Value.slice.injEq] at h'; unfold maxLen at k2; omega) : P := h
theorem aqo (el : ElemT P T E m by_) (hm : ∀ x, (enc x).length = m) (h1 : ∀ x, ∀ u ∈ enc x, u.oneCell' = true) (w : World) (g cap i : Nat) (L : List α) (x : α) (vb : Nat) (h : Own base E m enc w (.slice (some ⟨g, 0, none⟩) L.length cap) L) (hi : i < L.length) (hroom : L.length + 1 ≤ cap) (hx : Blk w vb (enc x)) (hvb : vb ≠ g) :
 ∃ (W1 : World) (S1 ex : List Value), (w.ownsRow base E m (.slice (some ⟨g, 0, none⟩) (L.length + 1) cap) (L.length + 1) (L.flatMap enc ++ ex)) ∧
 (∀ ty dl dc sl sc, dl = L.length - i → sl = L.length + 1 - i → (Builtin.copy_ #[T, T] ty #[.slice (some ⟨g, (i + 1) * m, none⟩) dl dc, .slice (some ⟨g, i * m, none⟩) sl sc]).run P w.drew = .ok (goInt (L.length - i : Nat)) W1) ∧
 (∀ (W : World), (∀ p, W.cell? p = W1.cell? p) → (∀ p, W.frozen? p = W1.frozen? p) → ∀ ty dl dc, 1 ≤ dl → (Builtin.copy_ #[T, T] ty #[.slice (some ⟨g, i * m, none⟩) dl dc, .slice (some ⟨vb, 0, none⟩) 1 1]).run P W = .ok (goInt 1) (W.setCells g (i * m) (enc x))) ∧
 Upd (· = g) w W1 ∧ W1.ownsRow base E m (.slice (some ⟨g, 0, none⟩) (L.length + 1) cap) (L.length + 1) S1 ∧ abg S1 (i * m) (enc x) = (L.take i ++ x :: L.drop i).flatMap enc ∧ cap ≤ 9223372036854775807 := by
 obtain ⟨ex, hex, hown⟩ := axk h hroom
 have hcap : cap ≤ 9223372036854775807 := by
  exact aew
 have hfl : (L.flatMap enc).length = L.length * m := abp hm L
 have hdl : ((L.drop i).flatMap enc).length = (L.length - i) * m := by rw [abp hm, List.length_drop]
 have hyl : (L.flatMap enc ++ ex).length = (L.length + 1) * m := by rw [jz, hfl, hex, Nat.succ_mul]
 have hi1 : (i + 1) * m + (L.length - i) * m = (L.length + 1) * m := by rw [← Nat.add_mul]; congr 1; omega
 have hi2 : i * m + m ≤ (L.length + 1) * m := by rw [← Nat.succ_mul]; exact Nat.mul_le_mul_right m (by omega)
 have hdg : ∀ j u, ((L.drop i).flatMap enc)[j]? = some u → (L.flatMap enc ++ ex)[i * m + j]? = some u := fun j u hu => by
  rw [aee hm, List.getElem?_drop] at hu; rw [List.getElem?_append_left (List.getElem?_eq_some_iff.1 hu).1]; exact hu
 have hsome : ∀ t, t < (L.length + 1) * m → (w.cell? ⟨g, t, none⟩).isSome = true := fun t ht => by
  rw [adx hown t _ (List.getElem?_eq_getElem (by rw [hyl]; exact ht))]; rfl
 have hown1 : (w.drew.setCells g ((i + 1) * m) ((L.drop i).flatMap enc)).ownsRow base E m (.slice (some ⟨g, 0, none⟩) (L.length + 1) cap) (L.length + 1) (abg (L.flatMap enc ++ ex) ((i + 1) * m) ((L.drop i).flatMap enc)) := abh _ _ w.drew _ hown
 have hU1 : Upd (· = g) w (w.drew.setCells g ((i + 1) * m) ((L.drop i).flatMap enc)) := (Upd.drew (Upd.refl (· = g) w)).trans (abz (S := (· = g)) rfl _ _ _) (fun _ h _ => h)
 have hx1 := hx.upd hU1 hvb
 have hs1 : (abg (L.flatMap enc ++ ex) ((i + 1) * m) ((L.drop i).flatMap enc)).length = (L.length + 1) * m := by rw [ab7, hyl]
 refine ⟨_, _, ex, hown, fun ty dl dc sl sc hdl' hsl' => ?_, fun W hWc hWf ty dl dc hdl' => ?_, hU1, hown1, (anu hm L i (by omega) x _ hyl (by rw [List.take_append_of_le_length (by rw [hfl]; exact Nat.mul_le_mul_right m (by omega)), ag8 hm])).2, hcap⟩
 ·exact afr w.drew _ ty g ((i + 1) * m) _ dc ⟨g, i * m, none⟩ _ sc (L.length - i) _ el (by simp only [Nat.min_def]; split <;> omega) hdl
   (fun j u hj => by rw [anx]; exact adx hown _ _ (hdg j u hj))
   (fun j hj => hsome _ (by rw [hdl] at hj; omega)) (fun j _ => afs hown _)
   (fun u hu => by obtain ⟨y, _, hy⟩ := List.mem_flatMap.1 hu; exact h1 y u hy)
 ·exact afr W _ ty g (i * m) _ dc ⟨vb, 0, none⟩ _ 1 1 _ el (by simp only [Nat.min_def]; split <;> omega) (by rw [hm, Nat.one_mul])
   (fun j u hj => by rw [anx, Nat.zero_add, hWc]; exact (hx1.cell j).trans hj)
   (fun j hj => by
    rw [hm] at hj
    rw [hWc, adx hown1 _ _ (List.getElem?_eq_getElem (by rw [hs1]; omega))]; rfl)
   (fun j _ => by rw [hWf]; exact afs hown1 _) (fun u hu => h1 x u hu)
theorem ah5 {w W : World} {g cap i : Nat} {L : List α} {x : α} {S1 : List Value} (hi : i ≤ L.length) (hown : W.ownsRow base E m (.slice (some ⟨g, 0, none⟩) (L.length + 1) cap) (L.length + 1) S1) (hfin : abg S1 (i * m) (enc x) = (L.take i ++ x :: L.drop i).flatMap enc) (hU : Upd (· = g) w W) :
 aj6 E m base enc w (.slice (some ⟨g, 0, none⟩) L.length cap) (L.take i ++ x :: L.drop i) (.returned (.slice (some ⟨g, 0, none⟩) (L.length + 1) cap)) (W.setCells g (i * m) (enc x)) := by
 have hu1 := hU.mono (T := fun k => (Value.slice (some ⟨g, 0, none⟩) L.length cap).ownBlock = some k) (fun k hk _ => by rw [hk]; rfl)
 exact ⟨_, rfl, Own.toRow (n := L.length + 1) (hfin ▸ abh _ _ _ _ hown) (by simp; omega) rfl, hu1.trans (abz (S := fun k => (Value.slice (some ⟨g, 0, none⟩) L.length cap).ownBlock = some k) rfl _ _ _) (fun _ h _ => h), fun k hk => .inl hk⟩
theorem aqp {tn : Nat} (el : ElemT P T E m by_) (htn : P.underlying tn = some (.int .i64)) (hby : by_ ≤ 1000) (hm : ∀ x, (enc x).length = m) (h1 : ∀ x, ∀ u ∈ enc x, u.oneCell' = true) (w : World) (g cap i : Nat) (L : List α) (x : α) (vb : Nat) (h : Own base E m enc w (.slice (some ⟨g, 0, none⟩) L.length cap) L) (hbase : base ≤ w.heap.size) (hL : L.length ≤ 1000000) (hi : i < L.length) (hroom : cap < L.length + 1) (hx : Blk w vb (enc x)) :
 ∃ (capN : Nat) (W1 W2 : World) (S2 : List Value), (∀ ty, (Builtin.append_ #[T, tn] ty #[.slice (some ⟨g, 0, none⟩) i cap, .int .i64 ((L.length : Int) + 1 - i)]).run P w = .ok (.slice (some ⟨w.heap.size, 0, none⟩) (L.length + 1) capN) W1) ∧
 (∀ ty dl dc, 1 ≤ dl → (Builtin.copy_ #[T, T] ty #[.slice (some ⟨w.heap.size, i * m, none⟩) dl dc, .slice (some ⟨vb, 0, none⟩) 1 1]).run P W1 = .ok (goInt 1) W2) ∧
 (∀ ty dl dc sl sc, dl = L.length - i → sl = L.length - i → (Builtin.copy_ #[T, T] ty #[.slice (some ⟨w.heap.size, (i + 1) * m, none⟩) dl dc, .slice (some ⟨g, i * m, none⟩) sl sc]).run P W2.drew = .ok (goInt (L.length - i : Nat)) (W2.drew.setCells w.heap.size ((i + 1) * m) ((L.drop i).flatMap enc))) ∧
 Below w.heap.size w W2 ∧ W2.ownsRow base E m (.slice (some ⟨w.heap.size, 0, none⟩) (L.length + 1) capN) (L.length + 1) S2 ∧ abg S2 ((i + 1) * m) ((L.drop i).flatMap enc) = (L.take i ++ x :: L.drop i).flatMap enc ∧ L.length + 1 ≤ capN ∧ capN ≤ maxLen ∧ L.length ≤ cap := by
 have hlc : L.length ≤ cap := by
  rcases h.cases with ⟨h', _⟩ | ⟨g', cap', h', _, _, k1, k2⟩
  ·simp at h'
  ·simp only [Value.slice.injEq] at h'; omega
 have hgl : g < w.heap.size := h.lt rfl
 obtain ⟨i0, z, hi0, hz0, hz1, hz2, hz3⟩ := el.ex
 have hpos := el.pos
 have htl0 : ((L.take i).flatMap enc).length = i * m := by rw [abp hm, List.length_take]; congr 1; omega
 have hdl : ((L.drop i).flatMap enc).length = (L.length - i) * m := by rw [abp hm, List.length_drop]
 have hi1 : (i + 1) * m + (L.length - i) * m = (L.length + 1) * m := by rw [← Nat.add_mul]; congr 1; omega
 have hi2 : i * m + m ≤ (L.length + 1) * m := by rw [← Nat.succ_mul]; exact Nat.mul_le_mul_right m (by omega)
 obtain ⟨c, hc⟩ := zj (L.length + 1 - i)
 have hic : i + c = L.length + 1 := by omega
 have hbb : (L.length + 1) * by_ ≤ 140737488355328 := jk (Nat.mul_le_mul (show L.length + 1 ≤ 1000001 by omega) hby) (by omega)
 have hcb : c * by_ ≤ 281474976710656 := jk (Nat.mul_le_mul (show c ≤ 1000001 by omega) hby) (by omega)
 have hapn : ∀ ty, (Builtin.append_ #[T, tn] ty #[.slice (some ⟨g, 0, none⟩) i cap, .int .i64 ((L.length : Int) + 1 - i)]).run P w =
  .ok (.slice (some ⟨w.heap.size, 0, none⟩) (L.length + 1) (grownCap w (L.length + 1) cap E)) (w.drew.alloc (.cells (((L.take i).flatMap enc).toArray ++ Builtin.zeroCells z.cells c ++ Builtin.zeroCells z.cells (grownCap w (L.length + 1) cap E - (L.length + 1))) E)) := fun ty => by
  have := afb  w T tn ty E i0 _ .i64 .i64 el.ht htn hi0 hz0 ⟨g, 0, none⟩ i cap c ((L.take i).flatMap enc) (by rw [hz1]; exact htl0)
   (fun j u hu => by
    rw [anx, Nat.zero_add]; have hj : j < i * m := by rw [← htl0]; exact (List.getElem?_eq_some_iff.1 hu).1
    rw [ag8 hm, List.getElem?_take, qw hj] at hu
    exact adx h j u hu)
   (by omega) (by rw [hz1]; omega) (by omega) (by omega) (by rw [hic]; exact growslice_fits (by omega) (by rw [hz2]; exact hbb)) (by rw [hz2]; exact hcb)
  rw [hic] at this; have e1 : ((L.length : Int) + 1 - i) = (c : Int) := by omega
  rw [e1]; exact this
 have hcN1 := grownCap_ge w (L.length + 1) cap E
 have hcN2 : grownCap w (L.length + 1) cap E ≤ maxLen := grownCap_le_maxLen _ _ _ _ (by unfold maxLen; omega)
 generalize grownCap w (L.length + 1) cap E = capN at hapn hcN1 hcN2
 obtain ⟨W1, hW1⟩ := zj (w.drew.alloc (.cells (((L.take i).flatMap enc).toArray ++ Builtin.zeroCells z.cells c ++ Builtin.zeroCells z.cells (capN - (L.length + 1))) E))
 have hown1 : W1.ownsRow base E m (.slice (some ⟨w.heap.size, 0, none⟩) (L.length + 1) capN) (L.length + 1) ((L.take i).flatMap enc ++ (Builtin.zeroCells z.cells c).toList) := by
  have := auq (base := base) (e := E) (m := m) w.drew ((L.take i).flatMap enc) z.cells i c capN hz3 htl0 hbase (by omega) hcN2; rw [hic] at this; rw [hW1]; exact this
 have hB1 : Below w.heap.size w W1 := by rw [hW1]; exact (aad (qz w.heap.size w)).alloc (qj _) _
 rw [← hW1] at hapn
 have hyl : ((L.take i).flatMap enc ++ (Builtin.zeroCells z.cells c).toList).length = (L.length + 1) * m := by
  have hz : (Builtin.zeroCells z.cells c).toList.length = c * m := by rw [Array.length_toList, ads, hz3]
  rw [jz, htl0, hz, ← Nat.add_mul, hic]
 have hxw : Blk W1 vb (enc x) := hx.pure hB1
 obtain ⟨W2, hW2⟩ := zj (W1.setCells w.heap.size (i * m) (enc x))
 have hown2 : W2.ownsRow base E m (.slice (some ⟨w.heap.size, 0, none⟩) (L.length + 1) capN) (L.length + 1) (abg ((L.take i).flatMap enc ++ (Builtin.zeroCells z.cells c).toList) (i * m) (enc x)) := by
  rw [hW2]; exact abh _ _ W1 _ hown1
 have hs2 : (abg ((L.take i).flatMap enc ++ (Builtin.zeroCells z.cells c).toList) (i * m) (enc x)).length = (L.length + 1) * m := by rw [ab7, hyl]
 have hB2 : Below w.heap.size w W2 := by
  rw [hW2]; exact hB1.trans (Upd.below (abz (S := (· = w.heap.size)) rfl _ _ _) hB1.size (fun k hk => by omega))
 refine ⟨capN, W1, W2, _, hapn, fun ty dl dc hdl' => ?_, fun ty dl dc sl sc hdl' hsl' => ?_, hB2, hown2, (anu hm L i (by omega) x _ hyl (by rw [List.take_left' htl0])).1, hcN1, hcN2, hlc⟩
 ·rw [hW2]
  exact afr W1 _ ty w.heap.size (i * m) _ dc ⟨vb, 0, none⟩ _ 1 1 _ el (by simp only [Nat.min_def]; split <;> omega) (by rw [hm, Nat.one_mul])
   (fun j u hj => by rw [anx, Nat.zero_add]; exact (hxw.cell j).trans hj)
   (fun j hj => by
    rw [hm] at hj
    rw [adx hown1 _ _ (List.getElem?_eq_getElem (by rw [hyl]; omega))]; rfl)
   (fun j _ => afs hown1 _) (fun u hu => h1 x u hu)
 ·exact afr W2.drew _ ty w.heap.size ((i + 1) * m) _ dc ⟨g, i * m, none⟩ _ sc (L.length - i) _ el (by simp only [Nat.min_def]; split <;> omega) hdl
   (fun j u hj => by
    rw [aee hm, List.getElem?_drop] at hj; rw [anx]
    exact (hB2.cell (p := ⟨g, i * m + j, none⟩) hgl).trans (adx h _ _ hj))
   (fun j hj => by
    rw [hdl] at hj; show (W2.cell? _).isSome = true
    rw [adx hown2 _ _ (List.getElem?_eq_getElem (by rw [hs2]; omega))]; rfl)
   (fun j _ => afs hown2 _)
   (fun u hu => by obtain ⟨y, _, hy⟩ := List.mem_flatMap.1 hu; exact h1 y u hy)
theorem ah6 {w W : World} {v : Value} {capN i : Nat} {L : List α} {x : α} {S2 : List Value} (hi : i ≤ L.length) (hown : W.ownsRow base E m (.slice (some ⟨w.heap.size, 0, none⟩) (L.length + 1) capN) (L.length + 1) S2) (hfin : abg S2 ((i + 1) * m) ((L.drop i).flatMap enc) = (L.take i ++ x :: L.drop i).flatMap enc) (hB : Below w.heap.size w W) :
 aj6 E m base enc w v (L.take i ++ x :: L.drop i) (.returned (.slice (some ⟨w.heap.size, 0, none⟩) (L.length + 1) capN)) (W.drew.setCells w.heap.size ((i + 1) * m) ((L.drop i).flatMap enc)) := by
 refine ⟨_, rfl, Own.toRow (n := L.length + 1) (hfin ▸ abh _ _ W.drew _ hown) (by simp; omega) rfl, Upd.of_below ((aad hB).trans (Upd.below (abz (S := (· = w.heap.size)) rfl _ _ _) hB.size (fun k hk => by omega))), fun k hk => ?_⟩
 have : w.heap.size = k := by simpa [Value.ownBlock] using hk
 right; omega
theorem aur {w w2 : World} {a : Option Addr} {g' cap cap' : Nat} {L : List α} {x : α} (hO : Own base E m enc w2 (.slice (some ⟨g', 0, none⟩) (L.length + 1) cap') (L ++ [x])) (hU : Upd (fun k => (Value.slice a L.length cap).ownBlock = some k) w w2) (hfr : (Value.slice a L.length cap).ownBlock = some g' ∨ g' = w.heap.size) :
 aj6 E m base enc w (.slice a L.length cap) (L ++ [x]) (.returned (.slice (some ⟨g', 0, none⟩) (L.length + 1) cap')) w2 := by
 refine ⟨_, rfl, hO, hU, fun k hk => ?_⟩
 have hk' : g' = k := by simpa [Value.ownBlock] using hk
 subst hk'
 rcases hfr with h | h
 ·exact .inl h
 ·right; omega
end
def aft (base : Nat) (w : World) (v : Value) (L : List QuT) (e : Ending) (w' : World) : Prop := aj6 51 3 base aar w v L e w'
theorem akt {base : Nat} (w : World) (v : Value) (L : List QuT) (x : QuT) (vb : Nat) (h : Own base 51 3 aar w v L) (hbase : base ≤ w.heap.size) (hL : L.length ≤ 1000000) (hx : Blk w vb (aar x)) :
 Calls prog 90 #[v, .int .i64 L.length, .slice (some ⟨vb, 0, none⟩) 1 1] w (aft base w v (L ++ [x])) := by
 have hown := qq h
 obtain ⟨a, cap, rfl, hm⟩ := (h.slc aaf).len
 unfold maxLen at hm
 clear h
 have hxc : ∀ j u, (aar x)[j]? = some u → w.cell? ⟨vb, j, none⟩ = some u := fun j u hu => (hx.cell j).trans hu
 have hxc' := qq hxc
 clear hxc
 obtain ⟨A, hA⟩ := zz (if cap = L.length then a else Option.map (fun x => x.add (L.length * 3)) a)
 go_enter func90, ntmps90
 go_wp2_with (at_builtin; refine af6 rfl (.tmp 23) (.tmp 24) 23 51 rfl afm aaf aea (.slice a L.length cap) L rfl hown.out vb 1 x rfl hxc'.out (by omega) (by unfold maxLen; omega) hbase ?_; intro g' cap' w2 hO hgr hfr)
 go_ret
 exact aur hO (Upd.grown hgr (fun k hk => hk)) hfr
theorem aj7 {base : Nat} (w : World) (g cap i : Nat) (L : List QuT) (x : QuT) (vb : Nat) (h : Own base 51 3 aar w (.slice (some ⟨g, 0, none⟩) L.length cap) L) (hL : L.length ≤ 1000000) (hi : i < L.length) (hroom : L.length + 1 ≤ cap) (hx : Blk w vb (aar x)) (hvb : vb ≠ g) :
 Calls prog 90 #[.slice (some ⟨g, 0, none⟩) L.length cap, .int .i64 i, .slice (some ⟨vb, 0, none⟩) 1 1] w (aft base w (.slice (some ⟨g, 0, none⟩) L.length cap) (L.take i ++ x :: L.drop i)) := by
 have mixed : prog.follows .mixedOrders = true := by kernel_rfl
 obtain ⟨W1, S1, ex, hown, hcp1, hcp2, hU1, hown1, hfin, hcap⟩ := aqo afm aaf aea w g cap i L x vb h hi hroom hx hvb
 have hov : ∀ lb cb, (callFunc 139 #[.slice (some ⟨vb, 0, none⟩) 1 1, .slice (some ⟨g, (i + 1) * 3, none⟩) lb cb]).run prog w = .ok (.value (.bool false)) w := fun lb cb => by
  obtain ⟨TA, hTA⟩ := hx.shape; have hTB := anv hown
  rw [run_callFunc_extern func139 (by kernel_rfl) (by kernel_rfl) (by kernel_rfl) (e := Extern.SlicesOverlaps.overlaps #[23, 23] #[4]) (by kernel_rfl),
   Lib.run_overlaps_apart w 23 4 51 underlying23 3 (fun w => aie afm) ⟨vb, 0, none⟩ ⟨g, (i + 1) * 3, none⟩ 1 1 lb cb hvb _ _ _ _ hTA hTB (by omega) (hx.frozen 0) (hx.frozen _)]
  rfl
 have hfin' := qq hfin; have hown1' := qq hown1; have hU1h := qq hU1
 clear hown1 hfin h hown hU1
 have hb0 : ¬ (cap = i) := by omega
 have hb1 : ¬ (cap = i + 1) := by omega
 have hb2 : ¬ ((i : Int) = (L.length : Int)) := by omega
 have hb3 : (L.length : Int) + 1 ≤ (cap : Int) := by omega
 have hb4 : (0 : Int) ≤ (i : Int) + 1 := by omega
 have hb6 : (i : Int) ≤ (L.length : Int) + 1 := by omega
 have hb5 : (i : Int) + 1 ≤ (L.length : Int) + 1 := by omega
 have hw1 : IntKind.i64.wrap ((i : Int) + 1) = (i : Int) + 1 := IntWalk.i64_in _ (by omega)
 have htn : ((i : Int) + 1).toNat = i + 1 := by omega
 have htl : ((L.length : Int) + 1).toNat = L.length + 1 := by omega
 go_enter func90, ntmps90
 go_wp2_with (simp only [hov])
 have hc1 := qq hcp1
 have hc2 := qq hcp2
 clear hcp1 hcp2
 go_region_law (refine adc rfl (.tmp 73) (.tmp 76) 23 23 rfl _ _ (by simp [Act.eval, Act.put]) (by simp [Act.eval, Act.put]) (hc1.out _ (L.length - i) (cap - (i + 1)) (L.length + 1 - i) (cap - i) (by omega) (by omega)) ?_)
 go_wp2_with (refine acp _ rfl (.tmp 80) (.tmp 81) 23 23 rfl _ _ rfl rfl (hc2.out _ (fun _ => rfl) (fun _ => rfl) _ (L.length + 1 - i) (cap - i) (by omega)) ?_)
 go_ret
 exact ah5 (Nat.le_of_lt hi) hown1'.out hfin'.out hU1h.out
theorem aj8 {base : Nat} (w : World) (g cap i : Nat) (L : List QuT) (x : QuT) (vb : Nat) (h : Own base 51 3 aar w (.slice (some ⟨g, 0, none⟩) L.length cap) L) (hbase : base ≤ w.heap.size) (hL : L.length ≤ 1000000) (hi : i < L.length) (hroom : cap < L.length + 1) (hx : Blk w vb (aar x)) :
 Calls prog 90 #[.slice (some ⟨g, 0, none⟩) L.length cap, .int .i64 i, .slice (some ⟨vb, 0, none⟩) 1 1] w (aft base w (.slice (some ⟨g, 0, none⟩) L.length cap) (L.take i ++ x :: L.drop i)) := by
 have mixed : prog.follows .mixedOrders = true := by kernel_rfl
 obtain ⟨capN, W1, W2, S2, hapn, hcp1, hcp2, hB2, hown2, hfin, hcN1, hcN2, hlc⟩ := aqp afm underlying3 (by omega) aaf aea w g cap i L x vb h hbase hL hi hroom hx
 have ha := qq hapn
 have hc1 := qq hcp1
 have hc2 := qq hcp2
 have hfin' := qq hfin
 have hown2' := qq hown2; have hB2h := qq hB2
 unfold maxLen at hcN2
 clear hapn hcp1 hcp2 hfin hown2 h hB2
 have hb0 : ¬ (cap = i) := by omega
 have hb1 : ¬ (capN = i + 1) := by omega
 have hb7 : ¬ (capN = i) := by omega
 have hb2 : ¬ ((i : Int) = (L.length : Int)) := by omega
 have hb3 : (cap : Int) < (L.length : Int) + 1 := by omega
 have hb4 : (0 : Int) ≤ (i : Int) + 1 := by omega
 have hb5 : (i : Int) + 1 ≤ (L.length : Int) + 1 := by omega
 have hb6 : (i : Int) ≤ (L.length : Int) + 1 := by omega
 have hb8 : (i : Int) ≤ (cap : Int) := by omega
 have hb9 : i ≤ L.length := by omega
 have hw1 : IntKind.i64.wrap ((i : Int) + 1) = (i : Int) + 1 := IntWalk.i64_in _ (by omega)
 have htn : ((i : Int) + 1).toNat = i + 1 := by omega
 go_enter func90, ntmps90
 go_wp2_with (first | (at_builtin; refine Lib.wpList_append_run _ rfl (.tmp 34) (.tmp 39) 23 3 rfl _ _ rfl rfl _ _ (ha.out _) ?_) | (refine acp _ rfl (.tmp 43) (.tmp 44) 23 23 rfl _ _ rfl rfl (hc1.out _ (L.length + 1 - i) (capN - i) (by omega)) ?_))
 go_region_law (refine adc rfl (.tmp 50) (.tmp 53) 23 23 rfl _ _ (by simp [Act.eval, Act.put]) (by simp [Act.eval, Act.put]) (hc2.out _ (L.length - i) (capN - (i + 1)) (L.length - i) (cap - i) rfl rfl) ?_)
 go_wp2
 go_ret
 exact ah6 (Nat.le_of_lt hi) hown2'.out hfin'.out hB2h.out
theorem arv {base : Nat} (w : World) (v : Value) (i : Nat) (L : List QuT) (x : QuT) (vb : Nat) (h : Own base 51 3 aar w v L) (hbase : base ≤ w.heap.size) (hL : L.length ≤ 1000000) (hi : i ≤ L.length) (hx : Blk w vb (aar x)) (hvb : v.ownBlock ≠ some vb) :
 Calls prog 90 #[v, .int .i64 i, .slice (some ⟨vb, 0, none⟩) 1 1] w (aft base w v (L.take i ++ x :: L.drop i)) := by
 rcases Nat.lt_or_ge i L.length with h1 | h1
 ·obtain ⟨g, cap, rfl, _, _⟩ := h.shape (fun e => by rw [e] at h1; simp at h1)
  rcases Nat.lt_or_ge cap (L.length + 1) with h2 | h2
  ·exact aj8 w g cap i L x vb h hbase hL h1 h2 hx
  ·exact aj7 w g cap i L x vb h hL h1 h2 hx (fun e => hvb (by rw [e]; rfl))
 ·obtain rfl : i = L.length := by omega
  rw [js, List.drop_length]; exact akt w v L x vb h hbase hL hx
theorem agk {P : Prop} (h : P := by
 rcases hown1.2 with ⟨h', _⟩ | ⟨g', cap', cur, h', hb', hg', _⟩
 ·simp at h'
 ·simp only [Value.slice.injEq, jy, Addr.mk.injEq, and_true, true_and] at h'
  obtain ⟨rfl, _⟩ := h'
  simp [World.frozen?, hg']) : P := h
theorem agl {P : Prop} (h : P := by
 have hu : Upd (· = g) w W1 := by rw [hW.out]; exact (Upd.drew (Upd.refl (· = g) w)).trans (abz (S := (· = g)) rfl _ _ _) (fun _ h _ => h)
 exact hu.trans (abz (S := (· = g)) rfl _ _ _) (fun _ h _ => h)) : P := h
theorem agm {P : Prop} (h : P := by
 refine ⟨⟨g, 0, none⟩, by simp [hc], qq (fun t u hu => ?_)⟩
 have h0 : news.length = 0 := by rw [hlen]; omega
 rw [List.length_eq_zero_iff.1 h0] at hu
 simp at hu) : P := h
theorem agn {P : Prop} (h : P := by
 have := World.ownsRow.cells h (g := g) rfl t u hu
 have e : (⟨g, 0, none⟩ : Addr).add t = ⟨g, 0 + t, none⟩ := by unfold Addr.add; split <;> simp_all
 rw [← e]; exact this) : P := h
theorem aj9 {base : Nat} (w : World) (g cap i j : Nat) (hij1 : j = i + 1) (L : List QuT) (h : Own base 51 3 aar w (.slice (some ⟨g, 0, none⟩) L.length cap) L) (hi : i < L.length) (hL : L.length ≤ 1000000) :
 Calls prog 95 #[.slice (some ⟨g, 0, none⟩) L.length cap, .int .i64 i, .int .i64 j] w fun e w' =>
  e = .returned (.slice (some ⟨g, 0, none⟩) (L.length - 1) cap) ∧ Own base 51 3 aar w' (.slice (some ⟨g, 0, none⟩) (L.length - 1) cap) (L.eraseIdx i) ∧ Upd (· = g) w w' := by
 have mixed : prog.follows .mixedOrders = true := by kernel_rfl
 obtain ⟨i0, hi0, hz0, hz1, hz2⟩ := info_parts aqj
 have hcap : L.length ≤ cap ∧ cap ≤ 9223372036854775807 := by
  exact aew
 have hcell : ∀ t u, (L.flatMap aar)[t]? = some u → w.cell? ⟨g, 0 + t, none⟩ = some u := fun t u hu => by
  exact agn
 have hfr : ∀ t, w.frozen? ⟨g, t, none⟩ = false := fun t => h.frozen t
 obtain ⟨news, hnews⟩ := zj ((L.drop j).flatMap aar)
 have hlen : news.length = (L.length - j) * 3 := by rw [hnews, abp aaf]; simp
 have hget : ∀ t, news[t]? = (L.flatMap aar)[j * 3 + t]? := fun t => by rw [hnews, aee aaf, List.getElem?_drop]
 obtain ⟨A, hA, hsrc⟩ : ∃ A : Addr, (if cap = j then some (⟨g, 0, none⟩ : Addr) else some ⟨g, j * 3, none⟩) = some A ∧ Hid (∀ t u, news[t]? = some u → w.drew.cell? (A.add t) = some u) := by
  by_cases hc : cap = j
  ·exact agm
  ·refine ⟨⟨g, j * 3, none⟩, by simp [hc], qq (fun t u hu => ?_)⟩
   rw [hget t] at hu; have := hcell _ _ hu; have e : (⟨g, j * 3, none⟩ : Addr).add t = ⟨g, 0 + (j * 3 + t), none⟩ := by unfold Addr.add; split <;> simp_all
   rw [e]; exact this
 have s1 := qq hlen
 have s2 : Hid (∀ u ∈ news, u.oneCell' = true) := qq (by
  intro u hu; rw [hnews] at hu; obtain ⟨x, _, hx⟩ := List.mem_flatMap.1 hu
  exact aea x u hx)
 have hfl : (L.flatMap aar).length = L.length * 3 := abp aaf L
 have s3 : Hid (∀ t, t < news.length → (w.drew.cell? ⟨g, 0 + i * 3 + t, none⟩).isSome = true ∧ w.drew.frozen? ⟨g, 0 + i * 3 + t, none⟩ = false) := qq (by
  intro t ht; rw [hlen] at ht; have hlt : i * 3 + t < (L.flatMap aar).length := by rw [hfl]; omega
  refine ⟨?_, hfr _⟩; show (w.cell? _).isSome = true
  rw [Nat.add_assoc, hcell _ _ (List.getElem?_eq_getElem hlt)]; rfl)
 obtain ⟨W1, hW1⟩ := zj (w.drew.setCells g (0 + i * 3) news)
 have hown1 : W1.ownsRow base 51 3 (.slice (some ⟨g, 0, none⟩) L.length cap) L.length (abg (L.flatMap aar) (i * 3) news) := by
  have := abh news (i * 3) w.drew _ h; rw [hW1]; simpa using this
 have hsl : (abg (L.flatMap aar) (i * 3) news).length = L.length * 3 := by rw [ab7, hfl]
 have hcl : ∀ ty, (Builtin.clear_ #[23] ty #[.slice (some ⟨g, (i + (L.length - j)) * 3, none⟩) (L.length - (i + (L.length - j))) (cap - (i + (L.length - j)))]).run prog W1 = .ok (.tuple #[]) (W1.setCells g ((i + (L.length - j)) * 3) [.string ⟨#[]⟩, .int .u64 0, .slice none 0 0]) := fun ty => by
  refine aev W1 _ 51 ty (.agg #[.string ⟨#[]⟩, .int .u64 0, .slice none 0 0]) _ underlying23 (fun w => by kernel_rfl) rfl (by simp [Value.oneCell']) g ((i + (L.length - j)) * 3) _ _ (by omega) (fun t ht => ?_) (fun t ht => ?_)
  ·simp only [jn, List.length_nil] at ht
   have hlt : (i + (L.length - j)) * 3 + t < (abg (L.flatMap aar) (i * 3) news).length := by rw [hsl]; omega
   have := World.ownsRow.cells hown1 (g := g) rfl _ _ (List.getElem?_eq_getElem hlt); have e : (⟨g, 0, none⟩ : Addr).add ((i + (L.length - j)) * 3 + t) = ⟨g, (i + (L.length - j)) * 3 + t, none⟩ := by unfold Addr.add; split <;> simp_all
   rw [← e, this]; rfl
  ·exact agk
 have hW := qq hW1
 have hown1' := qq hown1
 have hnews' := qq hnews
 clear hW1 hown1 hget hnews hlen hcell hfr h hsl hfl
 obtain ⟨hc1, hc2⟩ := hcap
 have hjl : j ≤ L.length := by omega
 have hil : j ≤ cap := by omega
 have hij : i < j := by omega
 have hne : ¬ i = j := by omega
 have hij1' := qq hij1
 clear hij1
 have hic : i ≤ cap := by omega
 go_enter func95, ntmps95
 go_wp2_with fail
 go_region_law (refine step_append_room rfl (.tmp 22) (.tmp 25) 23 rfl 51 i0 3 underlying23 hi0 hz1 g 0 i cap (by simp [Act.eval, Act.put]) A (L.length - j) (cap - j) news (by simp [Act.eval, Act.put]) s1.out hsrc.out s2.out (by omega) s3.out ?_; rw [← hW.out])
 go_wp2
 go_ret
 have e1 : i + (L.length - j) = L.length - 1 := by have := hij1'.out; omega
 rw [e1]
 refine ⟨rfl, ?_, ?_⟩
 ·have h1 := apm (abh [.string ⟨#[]⟩, .int .u64 0, .slice none 0 0] ((L.length - 1) * 3) W1 _ hown1'.out) (n' := L.length - 1) (by omega)
  rw [hnews'.out] at h1; have hj := hij1'.out; rw [hj] at h1; rw [ahs aaf L i hi _ rfl] at h1; unfold Own; rw [List.length_eraseIdx_of_lt hi]; exact h1
 ·exact agl
theorem aku {base : Nat} (w : World) (g cap i : Nat) (L : List QuT) (h : Own base 51 3 aar w (.slice (some ⟨g, 0, none⟩) L.length cap) L) (hi : i < L.length) (hL : L.length ≤ 1000000) :
 Calls prog 95 #[.slice (some ⟨g, 0, none⟩) L.length cap, .int .i64 i, .int .i64 ((i : Int) + 1)] w fun e w' =>
  e = .returned (.slice (some ⟨g, 0, none⟩) (L.length - 1) cap) ∧ Own base 51 3 aar w' (.slice (some ⟨g, 0, none⟩) (L.length - 1) cap) (L.eraseIdx i) ∧ Upd (· = g) w w' := by
 have := aj9 w g cap i (i + 1) rfl L h hi hL
 rwa [Int.natCast_add] at this
theorem ab9 (w : World) (e : Int) : Calls prog 89 #[.bool true, .int .i64 e] w fun r w' => r = .returned (.tuple #[]) ∧ w = w' := by
 go_enter func89, ntmps89
 go_wp2
 go_end0
 exact ⟨rfl, rfl⟩
theorem acq (w : World) (e : Int) : Calls prog 89 #[.bool false, .int .i64 e] w fun r w' => r = .panicked [{ v := .iface 41 (.int .i64 e), recovered := false }] ∧ w = w' := by
 go_enter func89, ntmps89
 go_wp2
 exact ⟨rfl, rfl, rfl⟩
theorem aan {B : Nat} {w w' : World} (h : Below B w w') : Below B w w'.drew := ⟨h.os, h.tape, h.output, h.size, h.block⟩
theorem StWf.insQ {nx : Int} {qv bv hv r : Value} {qs : List QuT} {zk : List BrT} {hs : List He} (h : StWf (StT.mk nx qv bv hv qs zk hs)) (i : Nat) {n : ByteArray} {l : Int} (hl : 0 ≤ l ∧ l < 18446744073709551616) : StWf (StT.mk nx r bv hv (abj qs i ⟨n, l, .slice none 0 0, []⟩) zk hs) := by
 refine ⟨h.n, fun q hq => ?_, fun q hq m hm => ?_, h.bx, h.pi, h.ti, h.hx⟩
 ·rcases ack.1 hq with rfl | hq
  ·exact hl
  ·exact h.ql q hq
 ·rcases ack.1 hq with rfl | hq
  ·cases hm
  ·exact h.mi q hq m hm
theorem az7 {qs : List QuT} (h : qs.Pairwise (fun a b => ∀ i, a.mv.ownBlock = some i → b.mv.ownBlock ≠ some i)) (i : Nat) {x : QuT} (hx : x.mv = .slice none 0 0) : (abj qs i x).Pairwise (fun a b => ∀ i, a.mv.ownBlock = some i → b.mv.ownBlock ≠ some i) := by
 unfold abj
 have h0 : ∀ k, x.mv.ownBlock ≠ some k := fun k e => by rw [hx] at e; simp [Value.ownBlock] at e
 rw [← List.take_append_drop i qs] at h
 obtain ⟨h1, h2, h3⟩ := List.pairwise_append.1 h
 refine List.pairwise_append.2 ⟨h1, List.pairwise_cons.2 ⟨fun b _ k e => jp e (h0 k), h2⟩, fun p hp q hq k e => ?_⟩
 rcases List.mem_cons.1 hq with rfl | hq
 ·exact h0 k
 ·exact h3 p hp q hq k e
theorem alt {P : Prop} (h : P := by
 refine hKq.out _ _ hb (fun zg => ?_)
 clear hKq Kq
 (try simp only [Act.put, lsT, lsZ, lsS])
 refine aai 13 rfl (fun Kq hKq => ?_)
 have X2 : Blk (w2.alloc (.cells #[.string en, .int .u64 ei, .slice none 0 0] 51)).drew w2.heap.size (aar ⟨en, ei, .slice none 0 0, []⟩) := (Blk.new w2 [.string en, .int .u64 ei, .slice none 0 0] 51).drew
 have M3 := M2.pure hA2
 go_simp
 (go_at_call 90; (with_reducible refine (arv _ (.slice qa qs.length qc) i qs ⟨en, ei, .slice none 0 0, []⟩ w2.heap.size M3.q (by have := hA2.size; omega) hL hil X2 (fun e => by have := hql _ e; omega)).mono ?_); rintro e w5 ⟨rv, rfl, hO5, hU5, hr5⟩; obtain ⟨ra, rn, rc, rfl⟩ := hO5.shape3)
 have hb : Upd (fun k => Value.ownBlock (.slice qa qs.length qc) = some k ∨ k = m) w2 w5 := hb.trans hU5 (fun i e _ => .inl e)
 refine hKq.out _ _ hb (fun zg => ?_)
 clear hKq Kq
 (try simp only [Act.put, lsT, lsZ, lsS])
 refine tkH 14 zg ?_
 refine tkH 15 zg ?_
 refine tkH 16 zg ?_
 have A5 := A2.upd (Upd.trans (S := fun k => Value.ownBlock (.slice qa qs.length qc) = some k) (Upd.of_below hA2) hU5 (fun i e _ => e)) hqm; have a1 := A5.at 1 rfl; have af := A5.frozen 1; clear A5
 refine aai 17 rfl (fun Kq hKq => ?_)
 go_simp
 have hb : Upd (fun k => Value.ownBlock (.slice qa qs.length qc) = some k ∨ k = m) w2 (w5.setCell ⟨m, 1, none⟩ (.slice ra rn rc)) := hb.trans (Upd.set (S := fun k => k = m) rfl _) (fun i e _ => .inr e)
 refine hKq.out _ _ hb (fun zg => ?_)
 clear hKq Kq
 (try simp only [Act.put, lsT, lsZ, lsS])
 refine wpAnyH_done (by kernel_rfl) ?_ _
 go_wp2
 go_end0
 refine ⟨rfl, ⟨ra, rn, rc, MkS.setQ M3 (r := .slice ra rn rc) hO5 hU5 hr5 (fun q hq => ?_) (az7 M3.md i rfl) (M3.wf.insQ i hn)⟩, (Upd.of_below hB2).trans hb (fun k e _ => ?_)⟩
 ·rcases ack.1 hq with rfl | hq
  ·exact .inr ⟨rfl, rfl⟩
  ·exact .inl hq
 ·rcases e with e | e
  ·exact hMh.out.q.ge e
  ·rw [e]; exact hMh.out.mB) : P := h
theorem ago {P : Prop} (h : P := by
 go_wp2_with (go_at_call 89; (with_reducible refine (acq _ _).mono ?_); rintro e w3 ⟨rfl, rfl⟩)
 exact ⟨rfl, rfl, hB2⟩) : P := h
theorem arw (w : World) (B m : Nat) (ex : Value) (nx : Int) (qa : Option Addr) (qc : Nat) (ba : Option Addr) (bc : Nat) (ha : Option Addr) (hc : Nat) (qs : List QuT) (zk : List BrT) (hs : List He) (ek : Int) (en : ByteArray) (ei : Int) (xf : Int) (xg xb : ByteArray) (pa : Option Addr) (pn pc : Nat) (ta : Option Addr) (tn tc : Nat) (hM : MkS B m ex w (StT.mk nx (.slice qa qs.length qc) (.slice ba zk.length bc) (.slice ha hs.length hc) qs zk hs)) (hBw : B ≤ w.heap.size) (hr : RisK abf QuT.name qs) (hL : qs.length ≤ 1000000) (hn : 0 ≤ ei ∧ ei < 18446744073709551616) :
 Calls prog 30 #[.pointer (some ⟨m, 0, none⟩), .agg #[.int .u8 ek, .string en, .int .u64 ei, .int .u32 xf, .string xg, .string xb, .slice pa pn pc, .slice ta tn tc]] w fun r w' => if acv abf QuT.name qs en = true then r = .panicked [{ v := .iface 41 (.int .i64 8), recovered := false }] ∧ Below w.heap.size w w' else r = .returned (.tuple #[]) ∧ (∃ ra rn rc, MkS B m ex w' (StT.mk nx (.slice ra rn rc) (.slice ba zk.length bc) (.slice ha hs.length hc) (abj qs (lbK abf QuT.name qs en) ⟨en, ei, .slice none 0 0, []⟩) zk hs)) ∧ Upd (fun i => B ≤ i) w w' := by
 have hE0 := (qz w.heap.size w).alloc (qj _) (.cells #[.int .u8 ek, .string en, .int .u64 ei, .int .u32 xf, .string xg, .string xb, .slice pa pn pc, .slice ta tn tc] 34)
 have E0 := Blk.new w [.int .u8 ek, .string en, .int .u64 ei, .int .u32 xf, .string xg, .string xb, .slice pa pn pc, .slice ta tn tc] 34
 have M0 := hM.pure hE0
 have hml : m < w.heap.size := hM.a.blk.lt
 have A0 : Blk _ m [.int .u64 nx, .slice qa qs.length qc, .slice ba zk.length bc, .slice ha hs.length hc] := M0.a.blk
 have hat := fun (v : World) (h : Below (w.alloc (.cells #[.int .u8 ek, .string en, .int .u64 ei, .int .u32 xf, .string xg, .string xb, .slice pa pn pc, .slice ta tn tc] 34)).heap.size (w.alloc (.cells #[.int .u8 ek, .string en, .int .u64 ei, .int .u32 xf, .string xg, .string xb, .slice pa pn pc, .slice ta tn tc] 34)) v) => atQ v nx qa qs.length qc ba zk.length bc ha hs.length hc qs en ((M0.q.slc aaf).pure h) (fun _ => True) (fun q hq => ⟨((M0.mm q hq).slc aac).pure h, fun _ _ _ => trivial, fun x hx => ((M0.ra q hq x hx).pure h).weaken (fun _ _ _ => trivial), M0.wf.mi q hq⟩) hr hL
 obtain ⟨i, hi⟩ := zz (lbK abf QuT.name qs en)
 have hil : i ≤ qs.length := by rw [← hi]; exact aza _ _ _ _
 obtain ⟨b, hb0⟩ := zz (acv abf QuT.name qs en)
 simp only [hi, hb0] at hat ⊢
 have hath := qq hat
 clear hat hi hb0 hr
 go_enter func30, ntmps30
 go_upto_region 1 with fail
 obtain ⟨u, hu⟩ := zj (w.alloc (.cells #[.int .u8 ek, .string en, .int .u64 ei, .int .u32 xf, .string xg, .string xb, .slice pa pn pc, .slice ta tn tc] 34))
 rw [← hu] at hE0 E0 M0 A0 hath ⊢
 have hul : w.heap.size < u.heap.size := by rw [hu]; simp
 clear hu
 have hb := aan (qz u.heap.size u)
 refine wp_region_held_drew (S := fun v => Below u.heap.size u v) (by kernel_rfl) hb (fun zg => ?_)
 refine tkH 0 zg ?_
 refine tkH 1 zg ?_
 refine tkH 2 zg ?_
 refine tkF 3 zg ?_ (fun v hSw => (A0.pure hSw).a4)
 refine tkH 4 zg ?_
 refine tkF 5 zg ?_ (fun v hSw => (E0.pure hSw).at 1 rfl)
 refine aai 6 rfl (fun Kq hKq => ?_)
 go_simp
 (go_at_call 88; (with_reducible refine (hath.out _ hb).mono ?_); rintro e w2 ⟨rfl, hB2⟩)
 have hb : Below u.heap.size u w2 := hb.trans (hB2.mono hb.size)
 refine hKq.out _ _ hb (fun zg => ?_)
 clear hKq Kq
 (try simp only [Act.put, lsT, lsZ, lsS])
 refine tkH 7 zg ?_
 refine tkH 8 zg ?_
 refine tkH 9 zg ?_
 refine tkH 10 zg ?_
 refine tkH 11 zg ?_
 refine wpAnyH_done (by kernel_rfl) ?_ _
 have hB2 := hE0.trans (hb.mono hE0.size)
 have hU2 := hb
 cases b
 rotate_left 1
 ·exact ago
 go_upto_region 3 with (go_at_call 89; (with_reducible refine (ab9 _ _).mono ?_); rintro e w3 ⟨rfl, rfl⟩)
 have E2 := E0.pure hU2; have M2 := M0.pure hU2
 clear hb zg hU2 M0 hE0
 have A2 : Blk w2 m [.int .u64 nx, .slice qa qs.length qc, .slice ba zk.length bc, .slice ha hs.length hc] := M2.a.blk
 have hqm : Value.ownBlock (.slice qa qs.length qc) ≠ some m := abm M2.q M2.a (by decide)
 have hql : ∀ k, Value.ownBlock (.slice qa qs.length qc) = some k → k < w.heap.size := fun k e => hM.q.lt e
 have hne : ¬ ((fun k => Value.ownBlock (.slice qa qs.length qc) = some k ∨ k = m) w.heap.size) := fun e => by
  rcases e with e | e
  ·have := hql _ e; omega
  ·omega
 have hz2 : w.heap.size < w2.heap.size := E2.lt
 have hMh := qq hM
 have a1 := A2.at 1 rfl
 have hb := (Upd.refl (fun k => Value.ownBlock (.slice qa qs.length qc) = some k ∨ k = m) w2).drew
 refine wp_region_held_drew (S := fun v => Upd (fun k => Value.ownBlock (.slice qa qs.length qc) = some k ∨ k = m) w2 v) (by kernel_rfl) hb (fun zg => ?_)
 refine tkH 0 zg ?_
 refine tkH 1 zg ?_
 refine tkH 2 zg ?_
 refine tkH 3 zg ?_
 refine tkH 4 zg ?_
 refine tkH 6 zg ?_
 refine tkH 7 zg ?_
 refine tkF 8 zg ?_ (fun v hSw => (E2.upd hSw hne).at 1 rfl)
 refine tkH 9 zg ?_
 refine tkF 10 zg ?_ (fun v hSw => (E2.upd hSw hne).at 2 rfl)
 refine tkH 11 zg ?_
 refine wpAnyH_ready (rs := [5, 12]) (by kernel_rfl) (by simp) ?_
 refine AllReadyH.cons rfl (fun Kq hKq => ?_) (AllReadyH.cons rfl (fun Kq hKq => ?_) AllReadyH.nil)
 ·go_simp
  refine hKq.out _ _ hb (fun zg => ?_); clear hKq Kq; (try simp only [Act.put, lsT, lsZ, lsS]); refine aai 12 rfl (fun Kq hKq => ?_); go_simp; have hA2 := aan ((qz w2.heap.size w2).alloc (qj _) (.cells #[.string en, .int .u64 ei, .slice none 0 0] 51)); have a1b := (A2.alloc (.cells #[.string en, .int .u64 ei, .slice none 0 0] 51)).at 1 rfl; have hb : Upd (fun k => Value.ownBlock (.slice qa qs.length qc) = some k ∨ k = m) w2 _ := Upd.of_below hA2; exact alt
 ·go_simp
  have hA2 := aan ((qz w2.heap.size w2).alloc (qj _) (.cells #[.string en, .int .u64 ei, .slice none 0 0] 51)); have a1b := (A2.alloc (.cells #[.string en, .int .u64 ei, .slice none 0 0] 51)).at 1 rfl; have hb : Upd (fun k => Value.ownBlock (.slice qa qs.length qc) = some k ∨ k = m) w2 _ := Upd.of_below hA2; refine hKq.out _ _ hb (fun zg => ?_); clear hKq Kq; (try simp only [Act.put, lsT, lsZ, lsS]); refine aai 5 rfl (fun Kq hKq => ?_); go_simp; exact alt
theorem aqq (a b : ByteArray) : (a.toList == b.toList) = decide (a = b) := by rw [Bool.eq_iff_iff, aid, qm]
theorem aus (t : PtT) (en : ByteArray) (eb : Nat) (P : Nat → Prop) (w : World) (hE : w.cell? ⟨eb, 1, none⟩ = some (.string en)) (hel : eb < w.heap.size) (hR : Rd P w t.pr.app) :
 Calls prog 92 #[t.arg, .pointer (some ⟨eb, 0, none⟩)] w fun e w' => e = .returned (.bool (decide (t.q = en))) ∧ Below w.heap.size w w' := by
 obtain ⟨q, id, ⟨key, dur, red, mid, uv⟩, body⟩ := t
 have hR : Rd _ _ uv := hR
 obtain ⟨uk, un, us, uka, ukc, ula, ulc, uks, ul, rfl, -⟩ := hR.open
 rw [PtT.arg_mk]
 have hB1 := (qz w.heap.size w).alloc (qj _) (.cells #[.string q, .int .u64 id, .string key, .bool dur, .bool red, .string mid, .int .u8 uk, .int .u64 un, .string us, .slice uka uks.length ukc, .slice ula ul.length ulc, .string body] 64)
 have A1 := Blk.new w [.string q, .int .u64 id, .string key, .bool dur, .bool red, .string mid, .int .u8 uk, .int .u64 un, .string us, .slice uka uks.length ukc, .slice ula ul.length ulc, .string body] 64
 have a0 := A1.at 0 rfl
 go_enter func92, ntmps92
 go_wp2
 go_ret
 exact ⟨congrArg (fun b => Ending.returned (.bool b)) (aqq q en), hB1⟩
theorem aut (x : Rf) (en : ByteArray) (eb : Nat) (w : World) (hE : w.cell? ⟨eb, 1, none⟩ = some (.string en)) (hel : eb < w.heap.size) :
 Calls prog 94 #[.agg #[.string x.q, .int .u64 x.id], .pointer (some ⟨eb, 0, none⟩)] w fun e w' => e = .returned (.bool (decide (x.q = en))) ∧ Below w.heap.size w w' := by
 have hB1 := (qz w.heap.size w).alloc (qj _) (.cells #[.string x.q, .int .u64 x.id] 68)
 have A1 := Blk.new w [.string x.q, .int .u64 x.id] 68
 have a0 := A1.at 0 rfl
 go_enter func94, ntmps94
 go_wp2
 go_ret
 exact ⟨congrArg (fun b => Ending.returned (.bool b)) (aqq x.q en), hB1⟩
theorem ah7 {L : List PtT} {p : PtT → Bool} (k : Nat) (h1 : ∀ j, (h : j < L.length) → j < k → p L[j] = false) (h2 : (h : k < L.length) → p L[k] = true) : L.any p = decide (k < L.length) := by
 exact adu
theorem axl (w : World) (la : Option Addr) (lc : Nat) (L : List PtT) (P : Nat → Prop) (p : PtT → Bool) (eb : Nat) (hL : Slc aat 12 w (.slice la L.length lc) L) (hml : (L.length : Int) ≤ 9223372036854775807) (hsubh : Hid (∀ x ∈ L, Rd P w x.pr.app)) (hcall : Hid (∀ x ∈ L, ∀ u : World, Below w.heap.size w u → Calls prog 92 #[x.arg, .pointer (some ⟨eb, 0, none⟩)] u fun e u' => e = .returned (.bool (p x)) ∧ Below u.heap.size u u')) :
 Calls prog 141 #[.slice la L.length lc, .func (.func 92) #[] #[.pointer (some ⟨eb, 0, none⟩)]] w fun e w' => (∃ r : Int, e = .returned (.int .i64 r) ∧ decide (0 ≤ r) = L.any p) ∧ Below w.heap.size w w' := by
 go_enter func141, ntmps141
 go_wp2
 go_loopw [8] (fun s8 wr => ∃ k : Nat, k ≤ L.length ∧ s8 = .int .i64 k ∧ Hid (∀ j, (h : j < L.length) → j < k → p L[j] = false) ∧ Below w.heap.size w wr) (fun s8 _ => L.length - (intOf s8).toNat)
 case atStart => exact ⟨0, by omega, rfl, qq (fun j h h0 => jp h0 (by omega)), qz _ _⟩
 case round =>
  obtain ⟨k, hk, rfl, hno, hB⟩ := hrel; by_cases hlt : k < L.length
  ·have hLk := hL.pure hB
   obtain ⟨g, off, rfl⟩ := hLk.addrB hlt; have hRk := (hsubh.out L[k] (qy hlt)).pure hB; obtain ⟨q, id, key, dur, red, mid, uk, un, us, uka, ukc, ula, ulc, uks, ul, body, hx, q0, q1, q2, q3, q4, q5, q6, q7, q8, q9, q10, q11⟩ := ad5 hLk hlt hRk; have hi := hcall.out L[k] (qy hlt) wr hB; obtain ⟨b, hb⟩ := zz (p L[k]); rw [hb, hx, PtT.arg_mk] at hi; have hih := qq hi; have hbh := qq hb; clear hi hb hx; have h1 : (k : Int) < (L.length : Int) := by omega
   cases b
   ·go_wp2_with (go_at_call 92; (with_reducible refine hih.out.mono ?_); rintro e w1 ⟨rfl, hB1⟩; have hB2 := hB.trans (hB1.mono hB.size))
    exact ac8
   ·go_wp2_with (go_at_call 92; (with_reducible refine hih.out.mono ?_); rintro e w1 ⟨rfl, hB1⟩; have hB2 := hB.trans (hB1.mono hB.size))
    go_ret; exact ⟨⟨k, rfl, by rw [ah7 k hno.out (fun _ => hbh.out), qp hlt]; simp⟩, hB2⟩
  ·obtain rfl : k = L.length := by omega
   go_wp2; go_ret; exact ⟨⟨-1, rfl, by rw [ah7 L.length hno.out (fun h => jp h hlt), qg hlt]; decide⟩, hB⟩
theorem axm (w : World) (la : Option Addr) (lc : Nat) (L : List PtT) (P : Nat → Prop) (p : PtT → Bool) (eb : Nat) (hL : Slc aat 12 w (.slice la L.length lc) L) (hml : (L.length : Int) ≤ 9223372036854775807) (hsubh : Hid (∀ x ∈ L, Rd P w x.pr.app)) (hcall : Hid (∀ x ∈ L, ∀ u : World, Below w.heap.size w u → Calls prog 92 #[x.arg, .pointer (some ⟨eb, 0, none⟩)] u fun e u' => e = .returned (.bool (p x)) ∧ Below u.heap.size u u')) :
 Calls prog 91 #[.slice la L.length lc, .func (.func 92) #[] #[.pointer (some ⟨eb, 0, none⟩)]] w fun e w' => e = .returned (.bool (L.any p)) ∧ Below w.heap.size w w' := by
 go_enter func91, ntmps91
 go_wp2_with (go_at_call 141; (with_reducible refine (axl w la lc L P p eb hL hml hsubh hcall).mono ?_); rintro e w1 ⟨⟨r, rfl, hr⟩, hB1⟩)
 go_ret
 exact ⟨by rw [← hr]; rfl, hB1⟩
theorem ah8 {L : List Rf} {p : Rf → Bool} (k : Nat) (h1 : ∀ j, (h : j < L.length) → j < k → p L[j] = false) (h2 : (h : k < L.length) → p L[k] = true) : L.any p = decide (k < L.length) := by
 exact adu
theorem axn (w : World) (la : Option Addr) (lc : Nat) (L : List Rf) (p : Rf → Bool) (eb : Nat) (hL : Slc abc 2 w (.slice la L.length lc) L) (hml : (L.length : Int) ≤ 9223372036854775807) (hcall : Hid (∀ x ∈ L, ∀ u : World, Below w.heap.size w u → Calls prog 94 #[.agg #[.string x.q, .int .u64 x.id], .pointer (some ⟨eb, 0, none⟩)] u fun e u' => e = .returned (.bool (p x)) ∧ Below u.heap.size u u')) :
 Calls prog 142 #[.slice la L.length lc, .func (.func 94) #[] #[.pointer (some ⟨eb, 0, none⟩)]] w fun e w' => (∃ r : Int, e = .returned (.int .i64 r) ∧ decide (0 ≤ r) = L.any p) ∧ Below w.heap.size w w' := by
 go_enter func142, ntmps142
 go_wp2
 go_loopw [8] (fun s8 wr => ∃ k : Nat, k ≤ L.length ∧ s8 = .int .i64 k ∧ Hid (∀ j, (h : j < L.length) → j < k → p L[j] = false) ∧ Below w.heap.size w wr) (fun s8 _ => L.length - (intOf s8).toNat)
 case atStart => exact ⟨0, by omega, rfl, qq (fun j h h0 => jp h0 (by omega)), qz _ _⟩
 case round =>
  obtain ⟨k, hk, rfl, hno, hB⟩ := hrel; by_cases hlt : k < L.length
  ·have hLk := hL.pure hB
   obtain ⟨g, off, rfl⟩ := hLk.addrB hlt; obtain ⟨xq, xi, hx, q0, q1⟩ := ado hLk hlt; have hi := hcall.out L[k] (qy hlt) wr hB; obtain ⟨b, hb⟩ := zz (p L[k]); rw [hb, hx] at hi; have hih := qq hi; have hbh := qq hb; clear hi hb hx; have h1 : (k : Int) < (L.length : Int) := by omega
   cases b
   ·go_wp2_with (go_at_call 94; (with_reducible refine hih.out.mono ?_); rintro e w1 ⟨rfl, hB1⟩; have hB2 := hB.trans (hB1.mono hB.size))
    exact ac8
   ·go_wp2_with (go_at_call 94; (with_reducible refine hih.out.mono ?_); rintro e w1 ⟨rfl, hB1⟩; have hB2 := hB.trans (hB1.mono hB.size))
    go_ret; exact ⟨⟨k, rfl, by rw [ah8 k hno.out (fun _ => hbh.out), qp hlt]; simp⟩, hB2⟩
  ·obtain rfl : k = L.length := by omega
   go_wp2; go_ret; exact ⟨⟨-1, rfl, by rw [ah8 L.length hno.out (fun h => jp h hlt), qg hlt]; decide⟩, hB⟩
theorem axo (w : World) (la : Option Addr) (lc : Nat) (L : List Rf) (p : Rf → Bool) (eb : Nat) (hL : Slc abc 2 w (.slice la L.length lc) L) (hml : (L.length : Int) ≤ 9223372036854775807) (hcall : Hid (∀ x ∈ L, ∀ u : World, Below w.heap.size w u → Calls prog 94 #[.agg #[.string x.q, .int .u64 x.id], .pointer (some ⟨eb, 0, none⟩)] u fun e u' => e = .returned (.bool (p x)) ∧ Below u.heap.size u u')) :
 Calls prog 93 #[.slice la L.length lc, .func (.func 94) #[] #[.pointer (some ⟨eb, 0, none⟩)]] w fun e w' => e = .returned (.bool (L.any p)) ∧ Below w.heap.size w w' := by
 go_enter func93, ntmps93
 go_wp2_with (go_at_call 142; (with_reducible refine (axn w la lc L p eb hL hml hcall).mono ?_); rintro e w1 ⟨⟨r, rfl, hr⟩, hB1⟩)
 go_ret
 exact ⟨by rw [← hr]; rfl, hB1⟩
def anz (en : ByteArray) (b : BrT) : Bool := b.zu.any (fun p => decide (p.q = en)) || b.zy.any (fun r => decide (r.q = en))
theorem auu (w : World) (B m : Nat) (ex : Value) (nx : Int) (qa : Option Addr) (qc : Nat) (ba : Option Addr) (bc : Nat) (ha : Option Addr) (hc : Nat) (qs : List QuT) (zk : List BrT) (hs : List He) (ek : Int) (en : ByteArray) (ei : Int) (xf : Int) (xg xb : ByteArray) (pa : Option Addr) (pn pc : Nat) (ta : Option Addr) (tn tc : Nat) (hM : MkS B m ex w (StT.mk nx (.slice qa qs.length qc) (.slice ba zk.length bc) (.slice ha hs.length hc) qs zk hs)) (hBw : B ≤ w.heap.size) (hr : RisK abf QuT.name qs) (hL : qs.length ≤ 1000000) (hLb : zk.length ≤ 1000000) :
 Calls prog 31 #[.pointer (some ⟨m, 0, none⟩), .agg #[.int .u8 ek, .string en, .int .u64 ei, .int .u32 xf, .string xg, .string xb, .slice pa pn pc, .slice ta tn tc]] w fun r w' => if acv abf QuT.name qs en = true then (if zk.any (anz en) = true then r = .panicked [{ v := .iface 41 (.int .i64 9), recovered := false }] ∧ Below w.heap.size w w' else r = .returned (.tuple #[]) ∧ (∃ ra rn rc, MkS B m ex w' (StT.mk nx (.slice ra rn rc) (.slice ba zk.length bc) (.slice ha hs.length hc) (qs.eraseIdx (lbK abf QuT.name qs en)) zk hs)) ∧ Upd (fun i => B ≤ i) w w') else r = .panicked [{ v := .iface 41 (.int .i64 7), recovered := false }] ∧ Below w.heap.size w w' := by
 have hE0 := (qz w.heap.size w).alloc (qj _) (.cells #[.int .u8 ek, .string en, .int .u64 ei, .int .u32 xf, .string xg, .string xb, .slice pa pn pc, .slice ta tn tc] 34)
 have E0 := Blk.new w [.int .u8 ek, .string en, .int .u64 ei, .int .u32 xf, .string xg, .string xb, .slice pa pn pc, .slice ta tn tc] 34
 have M0 := hM.pure hE0
 have hml : m < w.heap.size := hM.a.blk.lt
 have A0 : Blk _ m [.int .u64 nx, .slice qa qs.length qc, .slice ba zk.length bc, .slice ha hs.length hc] := M0.a.blk
 have hat := fun (v : World) (h : Below (w.alloc (.cells #[.int .u8 ek, .string en, .int .u64 ei, .int .u32 xf, .string xg, .string xb, .slice pa pn pc, .slice ta tn tc] 34)).heap.size (w.alloc (.cells #[.int .u8 ek, .string en, .int .u64 ei, .int .u32 xf, .string xg, .string xb, .slice pa pn pc, .slice ta tn tc] 34)) v) => atQ v nx qa qs.length qc ba zk.length bc ha hs.length hc qs en ((M0.q.slc aaf).pure h) (fun _ => True) (fun q hq => ⟨((M0.mm q hq).slc aac).pure h, fun _ _ _ => trivial, fun x hx => ((M0.ra q hq x hx).pure h).weaken (fun _ _ _ => trivial), M0.wf.mi q hq⟩) hr hL
 obtain ⟨i, hi⟩ := zz (lbK abf QuT.name qs en)
 obtain ⟨b, hb0⟩ := zz (acv abf QuT.name qs en)
 obtain ⟨ub, hub⟩ := zz (zk.any (anz en))
 have hil : i ≤ qs.length := by rw [← hi]; exact aza _ _ _ _
 have hib := qq (show b = true → i < qs.length from fun h => by rw [← hi]; exact (aec cmpB_ok hr (hb0.trans h)).1)
 rw [hi, hb0, hub]
 simp only [hi, hb0] at hat
 have hath := qq hat; have hubh := qq hub
 clear hat hi hb0 hr hub
 go_enter func31, ntmps31
 go_upto_region 1 with fail
 obtain ⟨u, hu⟩ := zj (w.alloc (.cells #[.int .u8 ek, .string en, .int .u64 ei, .int .u32 xf, .string xg, .string xb, .slice pa pn pc, .slice ta tn tc] 34))
 rw [← hu] at hE0 E0 M0 A0 hath ⊢
 have hul : w.heap.size < u.heap.size := by rw [hu]; simp
 clear hu
 have hb := aan (qz u.heap.size u)
 refine wp_region_held_drew (S := fun v => Below u.heap.size u v) (by kernel_rfl) hb (fun zg => ?_)
 refine tkH 0 zg ?_
 refine tkH 1 zg ?_
 refine tkH 2 zg ?_
 refine tkF 3 zg ?_ (fun v hSw => (A0.pure hSw).a4)
 refine tkH 4 zg ?_
 refine tkF 5 zg ?_ (fun v hSw => (E0.pure hSw).at 1 rfl)
 refine aai 6 rfl (fun Kq hKq => ?_)
 go_simp
 (go_at_call 88; (with_reducible refine (hath.out _ hb).mono ?_); rintro e w2 ⟨rfl, hB2⟩)
 have hb : Below u.heap.size u w2 := hb.trans (hB2.mono hb.size)
 refine hKq.out _ _ hb (fun zg => ?_)
 clear hKq Kq
 (try simp only [Act.put, lsT, lsZ, lsS])
 refine tkH 7 zg ?_
 refine tkH 8 zg ?_
 refine tkH 9 zg ?_
 refine tkH 10 zg ?_
 refine tkH 11 zg ?_
 refine wpAnyH_done (by kernel_rfl) ?_ _
 have hB2 := hE0.trans (hb.mono hE0.size)
 have hU2 := hb
 cases b
 ·exact ago
 have hil2 := hib.out rfl
 have E2 := E0.pure hU2; have M2 := M0.pure hU2
 clear hb zg hU2 M0 hE0
 have A2 : Blk w2 m [.int .u64 nx, .slice qa qs.length qc, .slice ba zk.length bc, .slice ha hs.length hc] := M2.a.blk
 have hMh := qq hM
 have a2 := A2.at 2 rfl
 go_upto_region 3 with (go_at_call 89; (with_reducible refine (ab9 _ _).mono ?_); rintro e w3 ⟨rfl, rfl⟩)
 go_wp2
 clear a2
 have hlb : (zk.length : Int) ≤ 1000000 := by omega
 go_loopw [7, 26] (fun s7 s26 wr => ∃ k : Nat, k ≤ zk.length ∧ s26 = .int .i64 k ∧ Hid (∀ j, (h : j < zk.length) → j < k → anz en zk[j] = false) ∧ Below w2.heap.size w2 wr) (fun s7 s26 _ => zk.length - (intOf s26).toNat)
 case atStart => exact ⟨0, Nat.zero_le _, rfl, qq (fun j h h' => jp h' (by omega)), qz _ _⟩
 case round =>
  obtain ⟨k, hk, rfl, hall, hB⟩ := hrel; have M3 := M2.pure hB; by_cases hkt : k < zk.length
  ·have hkti : (k : Int) < (zk.length : Int) := by omega
   obtain ⟨g, rfl, hg⟩ := abr M3.b hkt; have hen := M3.rd.e zk[k] (qy hkt); obtain ⟨yf, yg, yb, pa2, pc2, ta2, tc2, zu, zy, hx, hpl, htl, c0, c1, c2, c3, c4⟩ := adq (M3.b.slc aag) hkt hen; simp only [Nat.zero_add] at c0 c1 c2 c3 c4; rw [hx] at hen; have hps : Slc aat 12 wr (.slice pa2 zu.length pc2) zu := hen.p; have hts : Slc abc 2 wr (.slice ta2 zy.length tc2) zy := hen.s; have hpr : ∀ p ∈ zu, Rd _ wr p.pr.app := hen.r
   obtain ⟨u1, hu1⟩ := zz (zu.any (fun p => decide (p.q = en))); obtain ⟨u2, hu2⟩ := zz (zy.any (fun r => decide (r.q = en))); have hus := qq (show anz en zk[k] = (u1 || u2) by rw [hx, ← hu1, ← hu2]; rfl); have hbad := qq (fun (h : (u1 || u2) = true) => show ub = true by rw [← hubh.out, List.any_eq_true]; exact ⟨zk[k], qy hkt, hus.out.trans h⟩); have hpsh := qq hps; have htsh := qq hts; have hprh := qq hpr; have hu1h := qq hu1; have hu2h := qq hu2; have E3 := E2.pure hB; clear hx hps hts hpr hu1 hu2 hen; go_upto_region 6 with fail; have hAl := (qz wr.heap.size wr).alloc (qj _) (.cells #[.int .u32 yf, .string yg, .string yb, .slice pa2 zu.length pc2, .slice ta2 zy.length tc2] 62); have N0 := Blk.new wr [.int .u32 yf, .string yg, .string yb, .slice pa2 zu.length pc2, .slice ta2 zy.length tc2] 62; generalize wr.heap.size = nb at N0 ⊢; generalize wr.alloc (.cells #[.int .u32 yf, .string yg, .string yb, .slice pa2 zu.length pc2, .slice ta2 zy.length tc2] 62) = x at N0 hAl ⊢; clear c0 c1 c2 c3 c4; have EX := E3.pure hAl; have hBx := hB.trans (hAl.mono hB.size); have hFx := hB2.trans (hBx.mono hB2.size); have hcp := axm x pa2 pc2 zu _ (fun p => decide (p.q = en)) w.heap.size (hpsh.out.pure hAl) (by have := hpl; unfold maxLen at this; omega) (qq (fun p hp => (hprh.out p hp).pure hAl)) (qq (fun p hp v hv => aus p en w.heap.size _ v ((EX.pure hv).at 1 rfl) (jg EX.lt hv.size) (((hprh.out p hp).pure hAl).pure hv))); rw [hu1h.out] at hcp; have hct := fun (z : World) (hz : Below x.heap.size x z) => axo z ta2 tc2 zy (fun r => decide (r.q = en)) w.heap.size ((htsh.out.pure hAl).pure hz) (by have := htl; unfold maxLen at this; omega) (qq (fun p hp v hv => aut p en w.heap.size v (((EX.pure hz).pure hv).at 1 rfl) (jg (EX.pure hz).lt hv.size)))
   rw [hu2h.out] at hct; have hcph := qq hcp; have hcth := qq hct; clear hcp hct; have n3 := N0.at 3 rfl; cases u1
   rotate_left 1
   ·obtain rfl : ub = true := hbad.out rfl
    go_wp2_with (first | (go_at_call 91; (with_reducible refine hcph.out.mono ?_); rintro e w4 ⟨rfl, hB4⟩; have hF4 := hFx.trans (hB4.mono hFx.size); have N4 := N0.pure hB4; have n4 := N4.at 4 rfl) | (go_at_call 89; (with_reducible refine (acq _ _).mono ?_); rintro e w3 ⟨rfl, rfl⟩)); exact ⟨rfl, rfl, hF4⟩
   cases u2
   rotate_left 1
   ·obtain rfl : ub = true := hbad.out rfl
    go_wp2_with (first | (go_at_call 91; (with_reducible refine hcph.out.mono ?_); rintro e w4 ⟨rfl, hB4⟩; have hF4 := hFx.trans (hB4.mono hFx.size); have N4 := N0.pure hB4; have n4 := N4.at 4 rfl) | (go_at_call 93; (with_reducible refine (hcth.out _ hB4).mono ?_); rintro e w5 ⟨rfl, hB5⟩; have hF5 := hF4.trans (hB5.mono hF4.size)) | (go_at_call 89; (with_reducible refine (acq _ _).mono ?_); rintro e w3 ⟨rfl, rfl⟩) | (go_at_call 89; (with_reducible refine (ab9 _ _).mono ?_); rintro e w3 ⟨rfl, rfl⟩)); exact ⟨rfl, rfl, hF5⟩
   have hall2 := qq (show ∀ j, (h : j < zk.length) → j < k + 1 → anz en zk[j] = false from fun j h hj => by
    rcases Nat.lt_or_ge j k with q | q
    ·exact hall.out j h q
    ·obtain rfl : j = k := by omega
     rw [hus.out]; rfl)
   go_wp2_with (first | (go_at_call 91; (with_reducible refine hcph.out.mono ?_); rintro e w4 ⟨rfl, hB4⟩; have hF4 := hFx.trans (hB4.mono hFx.size); have N4 := N0.pure hB4; have n4 := N4.at 4 rfl) | (go_at_call 93; (with_reducible refine (hcth.out _ hB4).mono ?_); rintro e w5 ⟨rfl, hB5⟩; have hF5 := hF4.trans (hB5.mono hF4.size)) | (go_at_call 89; (with_reducible refine (acq _ _).mono ?_); rintro e w3 ⟨rfl, rfl⟩) | (go_at_call 89; (with_reducible refine (ab9 _ _).mono ?_); rintro e w3 ⟨rfl, rfl⟩)); go_roundw
   case rel => exact ⟨k + 1, by omega, by go_num, hall2, hBx.trans ((hB4.trans (hB5.mono hB4.size)).mono hBx.size)⟩
   case measure => simp [intOf]; omega
  ·obtain rfl : k = zk.length := by omega
   obtain rfl : ub = false := by
    rw [← hubh.out, List.any_eq_false]; intro y hy; obtain ⟨j, hj, rfl⟩ := List.getElem_of_mem hy; rw [hall.out j hj hj]; simp
   have A3 : Blk wr m [.int .u64 nx, .slice qa qs.length qc, .slice ba zk.length bc, .slice ha hs.length hc] := M3.a.blk; obtain ⟨g, rfl, hg⟩ := abr M3.q hil2; have hi0 : (0 : Int) ≤ (i : Int) := by omega
   have hi1 : (i : Int) + 1 ≤ 1000001 := by omega
   have hgm : g ≠ m := fun e => abm M3.q M3.a (by decide) (by rw [← e]; rfl)
   have hF3 := hB2.trans (hB.mono hB2.size); have a1 := A3.at 1 rfl; go_wp2_with (go_at_call 95; (with_reducible refine (aku wr g qc i qs M3.q hil2 hL).mono ?_); rintro e w5 ⟨rfl, hO5, hU5⟩; have A5 := A3.upd hU5 (fun e => hgm e.symm); have a1 := A5.at 1 rfl; have af := A5.frozen 1); go_end0; have hU5' : Upd (fun k => Value.ownBlock (.slice (some ⟨g, 0, none⟩) qs.length qc) = some k) wr w5 := hU5.mono (fun k e _ => by have e : k = g := e; rw [e]; rfl); refine ⟨rfl, ⟨some ⟨g, 0, none⟩, qs.length - 1, qc, MkS.setQ M3 (r := .slice (some ⟨g, 0, none⟩) (qs.length - 1) qc) hO5 hU5' (fun k e => .inl e) (fun q hq => .inl ((List.eraseIdx_sublist qs i).subset hq)) (M3.md.sublist (List.eraseIdx_sublist qs i)) ⟨M3.wf.n, fun q hq => M3.wf.ql q ((List.eraseIdx_sublist qs i).subset hq), fun q hq => M3.wf.mi q ((List.eraseIdx_sublist qs i).subset hq), M3.wf.bx, M3.wf.pi, M3.wf.ti, M3.wf.hx⟩⟩, ((Upd.of_below hF3).trans hU5 (fun k e _ => ?_)).trans (Upd.set (S := fun k => k = m) rfl _) (fun k e _ => ?_)⟩
   ·have e : k = g := e
    rw [e]; exact hMh.out.q.ge rfl
   ·have e : k = m := e
    rw [e]; exact hMh.out.mB
open Go.RowKit Go.Maps Tryz
abbrev WkOw (B : Nat) (w : World) (t : WkT) : Prop := EnOw B w t.en
theorem EnOw.work {B : Nat} {w : World} {t : EnT} (h : EnOw B w t) : WkOw B w ⟨t.pv, t.tv, t.zu, t.zy⟩ :=
 ⟨h.p, h.r, h.s, h.d, h.rd.work.wf⟩
theorem arx (a b : ByteArray) : (a.toList == b.toList) = (a == b) := (beq_toListBytes a b).symm
theorem bb3 (w : World) (q q2 : ByteArray) (i i2 : Int) : (binOp .eql 68 (.agg #[.string q, .int .u64 i]) (.agg #[.string q2, .int .u64 i2])).run prog w = .ok (.bool (acz ⟨q, i⟩ ⟨q2, i2⟩)) w := by
 have hf : prog.fieldsOf 68 = (match prog.underlying 68 with | some (.struct fs) => fs | _ => #[]) := rfl
 rw [underlying68] at hf
 simp only at hf
 have e : acz ⟨q, i⟩ ⟨q2, i2⟩ = (q == q2 && i == i2) := by
  unfold acz; rw [beq_toListBytes]; congr 1
 rw [e, run_eql_struct, show (10000 : Nat) = 9999 + 1 from rfl, run_equalIn_agg w 9999 _ _ _ (by rw [hf]; exact underlying68) (by kernel_rfl), hf]
 cases h1 : (q == q2) <;> cases h2 : (i == i2) <;> simp [go_sem, arx, h1, h2]
def bb4 (o : Option Nat) : Int := match o with | some i => (i : Int) | none => -1
theorem axp (l : List Rf) (r : Rf) : decide (0 ≤ bb4 (l.findIdx? (fun x => acz r x))) = decide (0 < aa8 l r) := by
 rw [Bool.eq_iff_iff, decide_eq_true_iff, decide_eq_true_iff, abq]
 cases h : l.findIdx? (fun x => acz r x) with
 | none =>
  rw [List.findIdx?_eq_none_iff] at h; exact ⟨fun h' => by simp [bb4] at h', fun hr => by have := h r hr; rw [abt.2 rfl] at this; cases this⟩
 | some i =>
  rw [List.findIdx?_eq_some_iff_getElem] at h; obtain ⟨hi, hp, _⟩ := h; exact ⟨fun _ => by rw [abt.1 hp]; exact qy _, fun _ => by simp [bb4]⟩
theorem an0 (w : World) (ka : Option Addr) (kc : Nat) (ks : List Rf) (r : Rf) (hK : Slc abc 2 w (.slice ka ks.length kc) ks) (hmk : (ks.length : Int) ≤ 9223372036854775807) :
 Calls prog 157 #[.slice ka ks.length kc, .agg #[.string r.q, .int .u64 r.id]] w fun e w' => e = .returned (.int .i64 (bb4 (ks.findIdx? (fun x => acz r x)))) ∧ Below w.heap.size w w' := by
 have hB0 := (qz w.heap.size w).alloc (qj _) (.cells #[.string r.q, .int .u64 r.id] 68)
 have B0 := Blk.new w [.string r.q, .int .u64 r.id] 68
 go_enter func157, ntmps157
 go_wp2
 go_loopw [8] (fun s8 wr => ∃ (k : Nat), k ≤ ks.length ∧ s8 = .int .i64 k ∧ Hid ((ks.take k).findIdx? (fun x => acz r x) = none) ∧ Below w.heap.size w wr ∧ Blk wr w.heap.size [.string r.q, .int .u64 r.id]) (fun s8 _ => ks.length - (intOf s8).toNat)
 case atStart => exact ⟨0, by omega, rfl, qq (by simp), hB0, B0⟩
 case round =>
  obtain ⟨k, hk, rfl, hno, hB, B1⟩ := hrel; clear hB0 B0; by_cases hlt : k < ks.length
  ·have hKr := hK.pure hB
   obtain ⟨kg, koff, rfl⟩ := hKr.addrB hlt; obtain ⟨q, i, hkx, c0, c1⟩ := ado hKr hlt; obtain ⟨b, hb⟩ := zz (acz r ⟨q, i⟩); have hR := fun (u : World) => (bb3 u r.q q r.id i).trans (show _ = Result.ok (.bool b) u by rw [← hb])
   obtain ⟨b0, b1⟩ := B1.a2; rw [← hkx] at hb; have hbh := qq hb; clear hkx hKr hb; cases b
   ·go_wp2
    go_region; go_wp2; go_roundw
    case rel => exact ⟨k + 1, by omega, by go_num, qq (avs hlt hno.out hbh.out), aad hB, B1.drew⟩
    case measure => simp [intOf]; omega
   ·go_wp2
    go_region; go_wp2; go_ret; refine ⟨?_, aad hB⟩; rw [asb hlt hno.out hbh.out]; rfl
  ·obtain rfl : k = ks.length := by omega
   go_wp2; go_ret; refine ⟨?_, hB⟩; have := hno.out; rw [js] at this; rw [this]; rfl
theorem afc (w : World) (ka : Option Addr) (kc : Nat) (ks : List Rf) (r : Rf) (hK : Slc abc 2 w (.slice ka ks.length kc) ks) (hmk : (ks.length : Int) ≤ 9223372036854775807) :
 Calls prog 123 #[.slice ka ks.length kc, .agg #[.string r.q, .int .u64 r.id]] w fun e w' => e = .returned (.bool (decide (0 < aa8 ks r))) ∧ Below w.heap.size w w' := by
 have hB1 := (qz w.heap.size w).alloc (qj _) (.cells #[.string r.q, .int .u64 r.id] 68)
 have B1 := Blk.new w [.string r.q, .int .u64 r.id] 68
 have hix := an0 _ ka kc ks r (hK.pure hB1) hmk
 rw [← axp]
 generalize bb4 (ks.findIdx? (fun x => acz r x)) = z at hix ⊢
 have hixh := qq hix
 obtain ⟨b0, b1⟩ := B1.a2
 clear hix hK hmk
 go_enter func123, ntmps123
 go_wp2_with (go_at_call 157; (with_reducible refine hixh.out.mono ?_); rintro e w' ⟨rfl, hB2⟩; have hT2 := hB1.trans (hB2.mono hB1.size))
 go_ret
 exact ⟨rfl, hT2⟩
theorem EnRd.lt {P : Nat → Prop} {w : World} {t : EnT} (h : EnRd P w t) : EnRd (fun k => P k ∧ k < w.heap.size) w t :=
 ⟨h.p, fun k e n => ⟨h.pP k e n, aez aae (by omega) h.p n k e⟩, fun x hx => (h.r x hx).lt, h.s, fun k e n => ⟨h.sP k e n, aez aa9 (by omega) h.s n k e⟩, h.wf⟩
def xnV (o : Option Xn) : Value := match o with | some x => .agg #[.int .u32 x.1, .string x.2.1, .string x.2.2] | none => .agg #[.int .u32 0, .string ⟨#[]⟩, .string ⟨#[]⟩]
def akv (zk : List BrT) (r : Rf) : Option Xn := ao7 (zk.map BrT.b) r
theorem ary {zk : List BrT} {r : Rf} (h : ∀ j, (h : j < zk.length) → decide (0 < aa8 zk[j].zy r) = false) : akv zk r = none := by
 unfold akv ao7
 rw [List.find?_eq_none.2, Option.map_none]
 intro b hb
 obtain ⟨t, ht, rfl⟩ := jv.1 hb
 obtain ⟨j, hj, rfl⟩ := List.getElem_of_mem ht
 have := h j hj
 show ¬ (decide (0 < aa8 zk[j].zy r) = true)
 rw [this]; simp
theorem arz {zk : List BrT} {r : Rf} {k : Nat} (hk : k < zk.length) (h : ∀ j, (h : j < zk.length) → j < k → decide (0 < aa8 zk[j].zy r) = false) (h2 : decide (0 < aa8 zk[k].zy r) = true) : akv zk r = some zk[k].x := by
 unfold akv ao7
 have e : (zk.map BrT.b).find? (fun b => decide (0 < aa8 b.zy r)) = some zk[k].b := by
  rw [List.find?_eq_some_iff_getElem]; refine ⟨h2, k, by simpa using hk, by simp, fun j hj => ?_⟩; rw [zq]; have := h j (by omega) hj; show (!decide (0 < aa8 zk[j].zy r)) = true
  rw [this]; rfl
 rw [e]; rfl
theorem aka (w : World) (nx : Int) (qa : Option Addr) (qn qc : Nat) (ba : Option Addr) (bc : Nat) (ha : Option Addr) (hn hc : Nat) (zk : List BrT) (q : ByteArray) (id : Int) (P : Nat → Prop) (hb : Slc aa7 5 w (.slice ba zk.length bc) zk) (he : ∀ b ∈ zk, EnRd P w b.en) (hL : zk.length ≤ 1000000) :
 Calls prog 63 #[.agg #[.int .u64 nx, .slice qa qn qc, .slice ba zk.length bc, .slice ha hn hc], .agg #[.string q, .int .u64 id]] w fun e w' => e = .returned (.tuple #[xnV (akv zk ⟨q, id⟩), .bool (akv zk ⟨q, id⟩).isSome]) ∧ Below w.heap.size w w' := by
 have hB1 := (((qz w.heap.size w).alloc (qj _) (.cells #[.int .u64 nx, .slice qa qn qc, .slice ba zk.length bc, .slice ha hn hc] 27)).alloc (by simp) (.cells #[.string q, .int .u64 id] 68)).alloc (by simp <;> omega) (.cells #[.int .u32 0, .string ⟨#[]⟩, .string ⟨#[]⟩] 30)
 have A1 := ((Blk.new w [.int .u64 nx, .slice qa qn qc, .slice ba zk.length bc, .slice ha hn hc] 27).alloc (.cells #[.string q, .int .u64 id] 68)).alloc (.cells #[.int .u32 0, .string ⟨#[]⟩, .string ⟨#[]⟩] 30)
 have R1 := (Blk.newE (w.alloc (.cells #[.int .u64 nx, .slice qa qn qc, .slice ba zk.length bc, .slice ha hn hc] 27)) [.string q, .int .u64 id] 68 (w.heap.size + 1) (by simp)).alloc (.cells #[.int .u32 0, .string ⟨#[]⟩, .string ⟨#[]⟩] 30)
 have X1 := Blk.newE ((w.alloc (.cells #[.int .u64 nx, .slice qa qn qc, .slice ba zk.length bc, .slice ha hn hc] 27)).alloc (.cells #[.string q, .int .u64 id] 68)) [.int .u32 0, .string ⟨#[]⟩, .string ⟨#[]⟩] 30 (w.heap.size + 2) (by simp)
 have hbh := qq hb; have heh := qq he
 have hlb : (zk.length : Int) ≤ 1000000 := by omega
 clear hb he
 have zx := ahk
 go_enter func63, ntmps63
 go_upto_region 1 with fail
 generalize ((w.alloc (.cells #[.int .u64 nx, .slice qa qn qc, .slice ba zk.length bc, .slice ha hn hc] 27)).alloc (.cells #[.string q, .int .u64 id] 68)).alloc (.cells #[.int .u32 0, .string ⟨#[]⟩, .string ⟨#[]⟩] 30) = u at hB1 A1 R1 X1 ⊢
 have a2 := A1.at 2 rfl
 go_wp2
 clear a2
 go_loopw [7, 11] (fun s7 s11 wr => ∃ k : Nat, k ≤ zk.length ∧ s11 = .int .i64 k ∧ Hid (∀ j, (h : j < zk.length) → j < k → decide (0 < aa8 zk[j].zy ⟨q, id⟩) = false) ∧ Below u.heap.size u wr) (fun s7 s11 _ => zk.length - (intOf s11).toNat)
 case atStart => exact ⟨0, Nat.zero_le _, rfl, qq (fun j h h' => jp h' (by omega)), qz _ _⟩
 case round =>
  obtain ⟨k, hk, rfl, hall, hB⟩ := hrel; have hBw := hB1.trans (hB.mono hB1.size); have X2 := X1.pure hB; have R2 := R1.pure hB; by_cases hkt : k < zk.length
  ·have hkti : (k : Int) < (zk.length : Int) := by omega
   have hSl := hbh.out.pure hBw; obtain ⟨g, off, rfl⟩ := hSl.addrB hkt; have hen := (heh.out zk[k] (qy hkt)).pure hBw; obtain ⟨yf, yg, yb, pa2, pc2, ta2, tc2, zu, zy, hx, hpl, htl, c0, c1, c2, c3, c4⟩ := adq hSl hkt hen; rw [hx] at hen; have hts : Slc abc 2 wr (.slice ta2 zy.length tc2) zy := hen.s; obtain ⟨f, hf⟩ := zz (decide (0 < aa8 zy ⟨q, id⟩)); have hfk := qq (show decide (0 < aa8 zk[k].zy ⟨q, id⟩) = f by rw [hx]; exact hf); have hxh := qq (show zk[k].x = (yf, yg, yb) by rw [hx]); have hfh := qq hf; have htsh := qq hts; clear hx hen hts hf hSl; go_upto_region 4 with fail; have hAl := (qz wr.heap.size wr).alloc (qj _) (.cells #[.int .u32 yf, .string yg, .string yb, .slice pa2 zu.length pc2, .slice ta2 zy.length tc2] 62); have N0 := Blk.new wr [.int .u32 yf, .string yg, .string yb, .slice pa2 zu.length pc2, .slice ta2 zy.length tc2] 62; generalize wr.heap.size = nb at N0 ⊢; generalize wr.alloc (.cells #[.int .u32 yf, .string yg, .string yb, .slice pa2 zu.length pc2, .slice ta2 zy.length tc2] 62) = x at N0 hAl ⊢; clear c0 c1 c2 c3 c4; have hcon := afc x ta2 tc2 zy ⟨q, id⟩ (htsh.out.pure hAl) (by have := htl; unfold maxLen at this; omega); rw [hfh.out] at hcon; have hconh := qq hcon; clear hcon; have hBx := hB.trans (hAl.mono hB.size); have n4 := N0.at 4 rfl; have r0 := (R2.pure hAl).at 0 rfl; have r1 := (R2.pure hAl).at 1 rfl; have X3 := X2.pure hAl; cases f
   ·go_wp2_with (go_at_call 123; (with_reducible refine hconh.out.mono ?_); rintro e w5 ⟨rfl, hB5⟩; have hB6 := hBx.trans (hB5.mono hBx.size); have N5 := N0.pure hB5; have X5 := X3.pure hB5; obtain ⟨n0, n1, n2⟩ := N5.a3; obtain ⟨f0, f1, f2⟩ := X5.f3; obtain ⟨x0, x1, x2⟩ := X5.a3)
    go_roundw
    case rel => exact ⟨k + 1, by omega, by go_num, qq (fun j h hj => by
     rcases Nat.lt_or_ge j k with q | q
     ·exact hall.out j h q
     ·obtain rfl : j = k := by omega
      exact hfk.out), hB6⟩
    case measure => simp [intOf]; omega
   ·have hres := qq (arz hkt hall.out hfk.out)
    go_wp2_with (go_at_call 123; (with_reducible refine hconh.out.mono ?_); rintro e w5 ⟨rfl, hB5⟩; have hB6 := hBx.trans (hB5.mono hBx.size); have N5 := N0.pure hB5; have X5 := X3.pure hB5; obtain ⟨n0, n1, n2⟩ := N5.a3; obtain ⟨f0, f1, f2⟩ := X5.f3; obtain ⟨x0, x1, x2⟩ := X5.a3); have K := X5.ent3 (.int .u32 yf) (.string yg) (.string yb); have hU := afo (hB1.trans (hB6.mono hB1.size)) (B := w.heap.size + 2) (by omega) (.int .u32 yf) (.string yg) (.string yb); unfold ent3 at K hU; obtain ⟨k0, k1, k2⟩ := K.a3; refine bodyPost_ret (by simp [results, Tryz.results63, go_sem, k0, k1, k2]; rfl) rfl ?_; exact ⟨by rw [hres.out, hxh.out]; rfl, hU⟩
  ·obtain rfl : k = zk.length := by omega
   have hres := qq (ary (fun j h => hall.out j h h)); obtain ⟨f0, f1, f2⟩ := X2.f3; obtain ⟨x0, x1, x2⟩ := X2.a3; go_wp2; have K := X2.ent3 (.int .u32 0) (.string ⟨#[]⟩) (.string ⟨#[]⟩); have hU := afo hBw (B := w.heap.size + 2) (by omega) (.int .u32 0) (.string ⟨#[]⟩) (.string ⟨#[]⟩); unfold ent3 at K hU; obtain ⟨k0, k1, k2⟩ := K.a3; refine bodyPost_ret (by simp [results, Tryz.results63, go_sem, k0, k1, k2]; rfl) rfl ?_; exact ⟨by rw [hres.out]; rfl, hU⟩
theorem axq {m bytes : Nat} {P : Program} {w : World} {o : Oper} {ev : Operand → Value} {A : Option Addr} {n cap : Nat} {t e : TypeId} {x y : Operand} (ho : o.op = .slice t x none (some y) none) (hE : ElemT P t e m bytes) (hx : ev x = .slice A n cap) {k : IntKind} {u : Nat} (hy : ev y = .int k (u : Int)) (hu : u ≤ n) (hc : n ≤ cap) :
 (execOp ev o).run P w = .ok (.value (sliced A 0 u cap m)) w := by
 have hel : P.elem t = e := by unfold Program.elem; rw [hE.ht]
 have hr := run_slice_h (P := P) (w := w) t A n cap (by rw [hel]; exact hE.ht) k (u : Int) (by omega) (by omega)
 rw [hel, aie hE] at hr
 simp only [Result.andThen, Int.toNat_natCast] at hr
 simp [execOp, ho, hx, hy, Result.andThen, run_sliceAt_slice (P := P) (w := w) t _ _ _ _ (by rw [hel]; exact hE.ht), hr]
theorem an1 {zk : List BrT} {r : Rf} : (akv zk r).isSome = decide (0 < aa8 (ace (zk.map BrT.b)) r) := by
 unfold akv ao7
 rw [Option.isSome_map, Bool.eq_iff_iff, List.find?_isSome, qm]
 constructor
 ·rintro ⟨b, hb, h⟩
  exact abq.2 (List.mem_flatMap.2 ⟨b, hb, abq.1 (by simpa using h)⟩)
 ·intro h
  obtain ⟨b, hb, h⟩ := List.mem_flatMap.1 (abq.1 h); exact ⟨b, hb, by simpa using abq.2 h⟩
theorem apn {s : St} {L : List Rf} {k : Nat} (hk : k < L.length) (h1 : hasM s.qs L[k] = true) (h2 : decide (0 < aa8 (L.take k) L[k]) = false) (h3 : decide (0 < aa8 (ace s.zk) L[k]) = false) : abw s (L.take k) (L.drop k) = abw s (L.take (k + 1)) (L.drop (k + 1)) := by
 have h2 := jq h2; have h3 := jq h3
 rw [List.drop_eq_getElem_cons hk, abw, qk (by rw [h1]; rintro (e | e); exact jp e (by decide); exact h2 e), qk h3, jx hk]
theorem aqr {s : St} {L : List Rf} {k : Nat} (hk : k < L.length) (h : hasM s.qs L[k] = false ∨ 0 < aa8 (L.take k) L[k]) : abw s (L.take k) (L.drop k) = 7 := by
 rw [List.drop_eq_getElem_cons hk, abw, qw h]
theorem axr {s : St} {L : List Rf} {k : Nat} (hk : k < L.length) (h1 : hasM s.qs L[k] = true) (h2 : decide (0 < aa8 (L.take k) L[k]) = false) (h3 : decide (0 < aa8 (ace s.zk) L[k]) = true) : abw s (L.take k) (L.drop k) = 9 := by
 have h2 := jq h2; have h3 := qt h3
 rw [List.drop_eq_getElem_cons hk, abw, qk (by rw [h1]; rintro (e | e); exact jp e (by decide); exact h2 e), qw h3]
theorem akb {P : Prop} (h : P := by
 refine tkH 8 zg ?_
 refine aai 9 rfl (fun Kq hKq => ?_)
 go_simp
 (go_at_call 89; (with_reducible refine (acq _ _).mono ?_); rintro e w3 ⟨rfl, rfl⟩)
 exact ⟨rfl, rfl, hBw2.trans (hb.mono hBw2.size)⟩) : P := h
theorem alu (w : World) (B m : Nat) (ex : Value) (nx : Int) (qa : Option Addr) (qc : Nat) (ba : Option Addr) (bc : Nat) (ha : Option Addr) (hc : Nat) (qs : List QuT) (zk : List BrT) (hs : List He) (la : Option Addr) (lc : Nat) (L : List Rf) (s : St) (hM : MkS B m ex w (StT.mk nx (.slice qa qs.length qc) (.slice ba zk.length bc) (.slice ha hs.length hc) qs zk hs)) (hse : (StT.mk nx (.slice qa qs.length qc) (.slice ba zk.length bc) (.slice ha hs.length hc) qs zk hs).s = s) (hok : qsB nx (qs.map QuT.q) = true) (hsm : StSm (StT.mk nx (.slice qa qs.length qc) (.slice ba zk.length bc) (.slice ha hs.length hc) qs zk hs)) (hL : Slc abc 2 w (.slice la L.length lc) L) (hLl : L.length ≤ 1000000) :
 Calls prog 96 #[.pointer (some ⟨m, 0, none⟩), .slice la L.length lc] w fun r w' => (if abw s [] L = 0 then r = .returned (.tuple #[]) else r = .panicked [{ v := .iface 41 (.int .i64 (abw s [] L)), recovered := false }]) ∧ Below w.heap.size w w' := by
 have hQ : QsOk qs := hsm.ok hok
 have hbl : zk.length ≤ 1000000 := hsm.b
 have hma := qq (fun (v : World) (h : Below w.heap.size w v) (q : ByteArray) (id : Int) => ag6 v nx qa qc ba zk.length bc ha hs.length hc qs _ q id (hM.pure h).rd.qs hQ)
 have hlk := qq (fun (v : World) (h : Below w.heap.size w v) (q : ByteArray) (id : Int) => aka v nx qa qs.length qc ba bc ha hs.length hc zk q id _ (hM.pure h).rd.b (hM.pure h).rd.e hbl)
 have hokh := qq hok
 have hsq := qq (show s.qs = qs.map QuT.q by rw [← hse]; rfl)
 have hsb := qq (show s.zk = zk.map BrT.b by rw [← hse]; rfl)
 have hLh := qq hL
 have hll : (L.length : Int) ≤ 1000000 := by omega
 have hA := qq hM.a.blk
 have hcap : L.length ≤ lc := by
  rcases hL with ⟨_, _, hv, _, h0⟩ | ⟨g, off, cap', hv, h1, h2, _⟩
  ·rw [h0]; simp
  ·simp only [Value.slice.injEq] at hv; obtain ⟨_, _, rfl⟩ := hv; exact h1
 obtain ⟨f, hf⟩ := zz (abw s [] L)
 rw [hf]
 have hfh := qq hf
 clear hM hQ hok hsm hL hse hf
 go_enter func96, ntmps96
 go_wp2
 go_loopw [4, 5, 6, 7, 8, 11] (fun s4 s5 s6 s7 s8 s11 wr => ∃ k : Nat, k ≤ L.length ∧ s11 = .int .i64 k ∧ Hid (abw s (L.take k) (L.drop k) = f) ∧ Below w.heap.size w wr) (fun s4 s5 s6 s7 s8 s11 _ => L.length - (intOf s11).toNat)
 case atStart => exact ⟨0, Nat.zero_le _, rfl, hfh, qz _ _⟩
 case round =>
  obtain ⟨k, hk, rfl, hall, hB⟩ := hrel; by_cases hkt : k < L.length
  ·have hkti : (k : Int) < (L.length : Int) := by omega
   have hSl := hLh.out.pure hB; obtain ⟨g, off, rfl⟩ := hSl.addrB hkt; obtain ⟨q, id, hx, c0, c1⟩ := ado hSl hkt; obtain ⟨mp, hmp⟩ := zz (aqg qs ⟨q, id⟩); obtain ⟨m1, m2, mh⟩ := mp; have hma1 := fun (v : World) (h : Below w.heap.size w v) => hma.out v h q id
   have hlk1 := fun (v : World) (h : Below w.heap.size w v) => hlk.out v h q id
   obtain ⟨lt, hlt⟩ := zz (akv zk ⟨q, id⟩); obtain ⟨lx, hlx⟩ := zz (xnV lt); obtain ⟨lb, hlb⟩ := zz lt.isSome; obtain ⟨dp, hdp⟩ := zz (decide (0 < aa8 (L.take k) ⟨q, id⟩)); rw [hmp] at hma1; dsimp only at hma1; rw [hlt, hlx, hlb] at hlk1; have h1 := qq (show hasM s.qs L[k] = mh by rw [hsq.out, hx, ← aqh hokh.out, hmp]); have h2 := qq (show decide (0 < aa8 (L.take k) L[k]) = dp by rw [hx]; exact hdp); have h3 := qq (show decide (0 < aa8 (ace s.zk) L[k]) = lb by rw [hsb.out, hx, ← an1, hlt]; exact hlb); have hdph := qq hdp; have hma1h := qq hma1; have hlk1h := qq hlk1; have hki : (0 : Int) ≤ (k : Int) := by omega
   clear hx hmp hma1 hlk1 hlt hlx hlb hdp hSl; go_upto_region 3 with fail; have hAl := (qz wr.heap.size wr).alloc (qj _) (.cells #[.string q, .int .u64 id] 68); have E0 := Blk.new wr [.string q, .int .u64 id] 68; have hBu := hB.trans (hAl.mono hB.size); generalize wr.heap.size = nb at E0 ⊢; generalize wr.alloc (.cells #[.string q, .int .u64 id] 68) = u at E0 hBu ⊢; clear c0 c1 hAl hB; have A0 := hA.out.pure hBu; have hb := aan (qz u.heap.size u); refine wp_region_held_drew (S := fun v => Below u.heap.size u v) (by kernel_rfl) hb (fun zg => ?_); refine tkH 0 zg ?_; refine tkH 1 zg ?_; refine tkH 2 zg ?_; refine tkF 3 zg ?_ (fun v hSw => (A0.pure hSw).a4); refine tkF 4 zg ?_ (fun v hSw => (E0.pure hSw).a2); refine aai 5 rfl (fun Kq hKq => ?_); go_simp
   (go_at_call 101; (with_reducible refine (hma1h.out _ (hBu.trans (hb.mono hBu.size))).mono ?_); rintro e w2 ⟨rfl, hB2⟩)
   have hb : Below u.heap.size u w2 := hb.trans (hB2.mono hb.size); refine hKq.out _ _ hb (fun zg => ?_); clear hKq Kq; (try simp only [Act.put, lsT, lsZ, lsS]); refine tkH 6 zg ?_; refine tkH 7 zg ?_; refine tkH 8 zg ?_; refine tkH 9 zg ?_; refine tkH 10 zg ?_; refine tkH 11 zg ?_; refine tkH 12 zg ?_; refine wpAnyH_done (by kernel_rfl) ?_ _; have hBw2 := hBu.trans (hb.mono hBu.size); have Ew2 := E0.pure hb; have Aw2 := A0.pure hb; clear hb zg hB2; go_upto_region 4 with fail; cases mh
   ·have hf7 : f = 7 := hall.out.symm.trans (aqr hkt (.inl h1.out))
    subst hf7; have hb := aan (qz w2.heap.size w2); refine wp_region_held_drew (S := fun v => Below w2.heap.size w2 v) (by kernel_rfl) hb (fun zg => ?_); refine tkH 0 zg ?_; refine tkH 1 zg ?_; refine agu 2 28 rfl rfl zg ?_; (try simp only [Act.put, lsT, lsZ, lsS]); refine agu 3 29 rfl rfl zg ?_; (try simp only [Act.put, lsT, lsZ, lsS]); refine agu 4 30 rfl rfl zg ?_; (try simp only [Act.put, lsT, lsZ, lsS]); refine agu 5 31 rfl rfl zg ?_; (try simp only [Act.put, lsT, lsZ, lsS]); refine agu 6 32 rfl rfl zg ?_; (try simp only [Act.put, lsT, lsZ, lsS]); refine agu 7 33 rfl rfl zg ?_; (try simp only [Act.put, lsT, lsZ, lsS]); exact akb
   have hb := aan (qz w2.heap.size w2); refine wp_region_held_drew (S := fun v => Below w2.heap.size w2 v) (by kernel_rfl) hb (fun zg => ?_); refine tkH 0 zg ?_; refine tkH 1 zg ?_; refine tkH 2 zg ?_; refine tkH 3 zg ?_; refine avt 4 30 (v := sliced (some ⟨g, off, none⟩) 0 k lc 2) rfl rfl (by kernel_rfl) (by kernel_rfl) (by kernel_rfl) (fun _ _ _ h => h) (Or.inl ⟨by kernel_rfl, ?_⟩) zg ?_
   ·(intro v hSw; refine axq (t := 32) (x := .tmp 28) (y := .tmp 29) (k := .i64) ?_ amm ?_ ?_ hk hcap; (rfl); (rfl); (rfl))
   (try simp only [Act.put, lsT, lsZ, lsS]); refine tkF 5 zg ?_ (fun v hSw => (Ew2.pure hSw).a2); have hSl2 := (hLh.out.pure hBw2).part (Nat.zero_le k) hk; rw [List.drop_zero] at hSl2; generalize sliced (some ⟨g, off, none⟩) 0 k lc 2 = sv at hSl2 ⊢; have hlk2 : (L.take k).length = k := by rw [List.length_take]; omega
   obtain ⟨sa, sc, hsv, hsl⟩ := hSl2.len; rw [hlk2] at hsv; subst hsv
   have hcon := qq (fun (v : World) (h : Below w2.heap.size w2 v) => by
    have h4 := hSl2.pure h; have := afc v sa sc (L.take k) ⟨q, id⟩ (by rw [hlk2]; exact h4) (by rw [List.length_take]; omega); rw [hlk2] at this
    exact this)
   clear hlk2 hsl; refine aai 6 rfl (fun Kq hKq => ?_); go_simp
   (go_at_call 123; (with_reducible refine (hcon.out _ hb).mono ?_); rw [hdph.out]; rintro e w3 ⟨rfl, hB2⟩)
   have hb : Below w2.heap.size w2 w3 := hb.trans (hB2.mono hb.size); refine hKq.out _ _ hb (fun zg => ?_); clear hKq Kq; (try simp only [Act.put, lsT, lsZ, lsS]); cases dp
   rotate_left 1
   ·have hf7 : f = 7 := hall.out.symm.trans (aqr hkt (.inr (qt h2.out)))
    subst hf7; refine tkH 7 zg ?_; exact akb
   refine tkH 7 zg ?_; refine tkH 8 zg ?_; refine aai 9 rfl (fun Kq hKq => ?_); go_simp
   (go_at_call 89; (with_reducible refine (ab9 _ _).mono ?_); rintro e w4 ⟨rfl, rfl⟩)
   refine hKq.out _ _ hb (fun zg => ?_); clear hKq Kq; (try simp only [Act.put, lsT, lsZ, lsS]); refine wpAnyH_done (by kernel_rfl) ?_ _; have hBw3 := hBw2.trans (hb.mono hBw2.size); have Ew3 := Ew2.pure hb; have Aw3 := Aw2.pure hb; clear hb zg hB2; go_upto_region 5 with fail; have hb := aan (qz w3.heap.size w3); refine wp_region_held_drew (S := fun v => Below w3.heap.size w3 v) (by kernel_rfl) hb (fun zg => ?_); refine tkH 0 zg ?_; refine tkH 1 zg ?_; refine tkH 2 zg ?_; refine tkF 3 zg ?_ (fun v hSw => (Aw3.pure hSw).a4); refine tkF 4 zg ?_ (fun v hSw => (Ew3.pure hSw).a2); refine aai 5 rfl (fun Kq hKq => ?_); go_simp
   (go_at_call 63; (with_reducible refine (hlk1h.out _ (hBw3.trans (hb.mono hBw3.size))).mono ?_); rintro e w4 ⟨rfl, hB2⟩)
   have hb : Below w3.heap.size w3 w4 := hb.trans (hB2.mono hb.size); refine hKq.out _ _ hb (fun zg => ?_); clear hKq Kq; (try simp only [Act.put, lsT, lsZ, lsS]); refine tkH 6 zg ?_; refine tkH 7 zg ?_; refine tkH 8 zg ?_; refine tkH 9 zg ?_; refine wpAnyH_done (by kernel_rfl) ?_ _; have hBw4 := hBw3.trans (hb.mono hBw3.size); clear hb zg hB2; cases lb
   rotate_left 1
   ·have hf9 : f = 9 := hall.out.symm.trans (axr hkt h1.out h2.out h3.out)
    subst hf9; go_wp2_with (go_at_call 89; (with_reducible refine (acq _ _).mono ?_); rintro e w5 ⟨rfl, rfl⟩); exact ⟨rfl, rfl, hBw4⟩
   have hall2 := qq ((apn hkt h1.out h2.out h3.out).symm.trans hall.out); go_wp2_with (go_at_call 89; (with_reducible refine (ab9 _ _).mono ?_); rintro e w5 ⟨rfl, rfl⟩); go_roundw
   case rel => exact ⟨k + 1, by omega, by go_num, hall2, hBw4⟩
   case measure => simp [intOf]; omega
  ·obtain rfl : k = L.length := by omega
   have hf0 : f = 0 := by rw [← hall.out, List.drop_length]; rfl
   subst hf0; go_wp2; go_end0; exact ⟨rfl, hB⟩
theorem akc {base : Nat} (w : World) (g cap i j : Nat) (hij1 : j = i + 1) (L : List BrT) (h : Own base 62 5 aa7 w (.slice (some ⟨g, 0, none⟩) L.length cap) L) (hi : i < L.length) (hL : L.length ≤ 1000000) :
 Calls prog 148 #[.slice (some ⟨g, 0, none⟩) L.length cap, .int .i64 i, .int .i64 j] w fun e w' =>
  e = .returned (.slice (some ⟨g, 0, none⟩) (L.length - 1) cap) ∧ Own base 62 5 aa7 w' (.slice (some ⟨g, 0, none⟩) (L.length - 1) cap) (L.eraseIdx i) ∧ Upd (· = g) w w' := by
 have mixed : prog.follows .mixedOrders = true := by kernel_rfl
 obtain ⟨i0, hi0, hz0, hz1, hz2⟩ := info_parts aqk
 have hcap : L.length ≤ cap ∧ cap ≤ 9223372036854775807 := by
  exact aew
 have hcell : ∀ t u, (L.flatMap aa7)[t]? = some u → w.cell? ⟨g, 0 + t, none⟩ = some u := fun t u hu => by
  exact agn
 have hfr : ∀ t, w.frozen? ⟨g, t, none⟩ = false := fun t => h.frozen t
 obtain ⟨news, hnews⟩ := zj ((L.drop j).flatMap aa7)
 have hlen : news.length = (L.length - j) * 5 := by rw [hnews, abp aag]; simp
 have hget : ∀ t, news[t]? = (L.flatMap aa7)[j * 5 + t]? := fun t => by rw [hnews, aee aag, List.getElem?_drop]
 obtain ⟨A, hA, hsrc⟩ : ∃ A : Addr, (if cap = j then some (⟨g, 0, none⟩ : Addr) else some ⟨g, j * 5, none⟩) = some A ∧ Hid (∀ t u, news[t]? = some u → w.drew.cell? (A.add t) = some u) := by
  by_cases hc : cap = j
  ·exact agm
  ·refine ⟨⟨g, j * 5, none⟩, by simp [hc], qq (fun t u hu => ?_)⟩
   rw [hget t] at hu; have := hcell _ _ hu; have e : (⟨g, j * 5, none⟩ : Addr).add t = ⟨g, 0 + (j * 5 + t), none⟩ := by unfold Addr.add; split <;> simp_all
   rw [e]; exact this
 have s1 := qq hlen
 have s2 : Hid (∀ u ∈ news, u.oneCell' = true) := qq (by
  intro u hu; rw [hnews] at hu; obtain ⟨x, _, hx⟩ := List.mem_flatMap.1 hu
  exact aeb x u hx)
 have hfl : (L.flatMap aa7).length = L.length * 5 := abp aag L
 have s3 : Hid (∀ t, t < news.length → (w.drew.cell? ⟨g, 0 + i * 5 + t, none⟩).isSome = true ∧ w.drew.frozen? ⟨g, 0 + i * 5 + t, none⟩ = false) := qq (by
  intro t ht; rw [hlen] at ht; have hlt : i * 5 + t < (L.flatMap aa7).length := by rw [hfl]; omega
  refine ⟨?_, hfr _⟩; show (w.cell? _).isSome = true
  rw [Nat.add_assoc, hcell _ _ (List.getElem?_eq_getElem hlt)]; rfl)
 obtain ⟨W1, hW1⟩ := zj (w.drew.setCells g (0 + i * 5) news)
 have hown1 : W1.ownsRow base 62 5 (.slice (some ⟨g, 0, none⟩) L.length cap) L.length (abg (L.flatMap aa7) (i * 5) news) := by
  have := abh news (i * 5) w.drew _ h; rw [hW1]; simpa using this
 have hsl : (abg (L.flatMap aa7) (i * 5) news).length = L.length * 5 := by rw [ab7, hfl]
 have hcl : ∀ ty, (Builtin.clear_ #[24] ty #[.slice (some ⟨g, (i + (L.length - j)) * 5, none⟩) (L.length - (i + (L.length - j))) (cap - (i + (L.length - j)))]).run prog W1 = .ok (.tuple #[]) (W1.setCells g ((i + (L.length - j)) * 5) [.int .u32 0, .string ⟨#[]⟩, .string ⟨#[]⟩, .slice none 0 0, .slice none 0 0]) := fun ty => by
  refine aev W1 _ 62 ty (.agg #[.int .u32 0, .string ⟨#[]⟩, .string ⟨#[]⟩, .slice none 0 0, .slice none 0 0]) _ underlying24 (fun w => by kernel_rfl) rfl (by simp [Value.oneCell']) g ((i + (L.length - j)) * 5) _ _ (by omega) (fun t ht => ?_) (fun t ht => ?_)
  ·simp only [jn, List.length_nil] at ht
   have hlt : (i + (L.length - j)) * 5 + t < (abg (L.flatMap aa7) (i * 5) news).length := by rw [hsl]; omega
   have := World.ownsRow.cells hown1 (g := g) rfl _ _ (List.getElem?_eq_getElem hlt); have e : (⟨g, 0, none⟩ : Addr).add ((i + (L.length - j)) * 5 + t) = ⟨g, (i + (L.length - j)) * 5 + t, none⟩ := by unfold Addr.add; split <;> simp_all
   rw [← e, this]; rfl
  ·exact agk
 have hW := qq hW1
 have hown1' := qq hown1
 have hnews' := qq hnews
 clear hW1 hown1 hget hnews hlen hcell hfr h hsl hfl
 obtain ⟨hc1, hc2⟩ := hcap
 have hjl : j ≤ L.length := by omega
 have hil : j ≤ cap := by omega
 have hij : i < j := by omega
 have hne : ¬ i = j := by omega
 have hij1' := qq hij1
 clear hij1
 have hic : i ≤ cap := by omega
 go_enter func148, ntmps148
 go_wp2_with fail
 go_region_law (refine step_append_room rfl (.tmp 22) (.tmp 25) 24 rfl 62 i0 5 underlying24 hi0 hz1 g 0 i cap (by simp [Act.eval, Act.put]) A (L.length - j) (cap - j) news (by simp [Act.eval, Act.put]) s1.out hsrc.out s2.out (by omega) s3.out ?_; rw [← hW.out])
 go_wp2
 go_ret
 have e1 : i + (L.length - j) = L.length - 1 := by have := hij1'.out; omega
 rw [e1]
 refine ⟨rfl, ?_, ?_⟩
 ·have h1 := apm (abh [.int .u32 0, .string ⟨#[]⟩, .string ⟨#[]⟩, .slice none 0 0, .slice none 0 0] ((L.length - 1) * 5) W1 _ hown1'.out) (n' := L.length - 1) (by omega)
  rw [hnews'.out] at h1; have hj := hij1'.out; rw [hj] at h1; rw [ahs aag L i hi _ rfl] at h1; unfold Own; rw [List.length_eraseIdx_of_lt hi]; exact h1
 ·exact agl
theorem akw {base : Nat} (w : World) (g cap i : Nat) (L : List BrT) (h : Own base 62 5 aa7 w (.slice (some ⟨g, 0, none⟩) L.length cap) L) (hi : i < L.length) (hL : L.length ≤ 1000000) :
 Calls prog 148 #[.slice (some ⟨g, 0, none⟩) L.length cap, .int .i64 i, .int .i64 ((i : Int) + 1)] w fun e w' =>
  e = .returned (.slice (some ⟨g, 0, none⟩) (L.length - 1) cap) ∧ Own base 62 5 aa7 w' (.slice (some ⟨g, 0, none⟩) (L.length - 1) cap) (L.eraseIdx i) ∧ Upd (· = g) w w' := by
 have := akc w g cap i (i + 1) rfl L h hi hL
 rwa [Int.natCast_add] at this
end Go.Proofs.YtgnaifhmcllnlaaGreatDoor
