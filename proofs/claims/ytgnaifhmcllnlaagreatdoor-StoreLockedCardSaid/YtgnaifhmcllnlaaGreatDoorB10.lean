/- slices.Delete of one element at []api.BranchRow. Conditions: the slice is the call's own. Written by gen_delete.py. (Texts joined.) -/
import Derived.Lib.AppendZeros
import Derived.Lib.Overlaps
import Derived.Test.YtgnaifhmcllnlaaGreatDoorB09
set_option maxRecDepth 100000
set_option maxHeartbeats 6400000
set_option linter.unusedSimpArgs false
set_option linter.unusedVariables false
namespace Go.Proofs.YtgnaifhmcllnlaaGreatDoor
open Go.RowKit Tryz
def abg (xs : List Value) : Nat → List Value → List Value
 | _, [] => xs
 | o, v :: vs => abg (xs.set o v) (o + 1) vs
theorem ab7 : ∀ (A : List Value) (D : List Value) (o : Nat), (abg D o A).length = D.length
 | [], _, _ => rfl
 | v :: A, D, o => by rw [abg, ab7 A]; simp
theorem als : ∀ (A : List Value) (D : List Value) (o j : Nat), j < D.length → (abg D o A)[j]? = if o ≤ j ∧ j < o + A.length then A[j - o]? else D[j]?
 | [], D, o, j, _ => by rw [abg, qk (by simp)]
 | v :: A, D, o, j, hj => by
  rw [abg, als A _ _ _ (by simpa using hj)]; by_cases G : o + 1 ≤ j ∧ j < o + 1 + A.length
  ·rw [qw G, qw (by simp; omega), show j - o = (j - (o + 1)) + 1 by omega, List.getElem?_cons_succ]
  ·rw [qk G]
   by_cases F : j = o
   ·subst F; rw [qw (by simp), List.getElem?_set_self hj]; simp
   ·rw [List.getElem?_set_ne (fun e => F e.symm), qk (by simp; omega)]
theorem abh {base : Nat} {e : TypeId} {m n F g : Nat} : ∀ (A : List Value) (o : Nat) (w : World) (D : List Value), w.ownsRow base e m (.slice (some ⟨g, 0, none⟩) n F) n D →
 (w.setCells g o A).ownsRow base e m (.slice (some ⟨g, 0, none⟩) n F) n (abg D o A)
 | [], _, _, _, h => h
 | v :: A, o, w, D, h => by
  rw [abg]; exact abh A (o + 1) _ _ (World.ownsRow.stored h o v).1
theorem abz {S : Nat → Prop} {g : Nat} (D : S g) : ∀ (A : List Value) (o : Nat) (w : World), Upd S w (w.setCells g o A)
 | [], _, _ => Upd.refl _ _
 | v :: A, o, _ => (Upd.set (S := S) (p := ⟨g, o, none⟩) D v).trans (abz D A (o + 1) _) (fun _ h _ => h)
theorem apm {base : Nat} {e : TypeId} {m n n' A g : Nat} {w : World} {F : List Value} (h : w.ownsRow base e m (.slice (some ⟨g, 0, none⟩) n A) n F) (N : n' ≤ n) :
 w.ownsRow base e m (.slice (some ⟨g, 0, none⟩) n' A) n' (F.take (n' * m)) := by
 obtain ⟨Y, D⟩ := h
 have O : n' * m ≤ n * m := Nat.mul_le_mul_right m N
 refine ⟨by rw [List.length_take]; omega, ?_⟩
 rcases D with ⟨D, _⟩ | ⟨X, W, H, G, U, M, k1, K, I, J⟩
 ·simp at D
 ·simp only [Value.slice.injEq, jy, Addr.mk.injEq, and_true, true_and] at G
  obtain ⟨rfl, rfl⟩ := G; refine .inr ⟨g, A, H, rfl, U, M, by omega, K, I, ?_⟩; rw [← J, List.take_take, Nat.min_eq_left O]
theorem aee {α : Type} {enc : α → List Value} {m : Nat} (A : ∀ x, (enc x).length = m) : ∀ (L : List α) (j : Nat), (L.drop j).flatMap enc = (L.flatMap enc).drop (j * m)
 | [], j => by simp
 | x :: L, 0 => by simp
 | x :: L, j + 1 => by
  rw [List.drop_succ_cons, aee A L j, List.flatMap_cons, List.drop_append, List.drop_eq_nil_of_le («as» := enc x) (by rw [A, Nat.add_mul]; omega), List.nil_append]; congr 1; rw [A, Nat.add_mul]; omega
theorem ag8 {α : Type} {enc : α → List Value} {m : Nat} (A : ∀ x, (enc x).length = m) : ∀ (L : List α) (j : Nat), (L.take j).flatMap enc = (L.flatMap enc).take (j * m)
 | [], j => by simp
 | x :: L, 0 => by simp
 | x :: L, j + 1 => by
  rw [List.take_succ_cons, List.flatMap_cons, ag8 A L j, List.flatMap_cons, List.take_append, List.take_of_length_le (l := enc x) (by rw [A, Nat.add_mul]; omega)]; congr 2; rw [A, Nat.add_mul]; omega
theorem aef (A D : List Value) (o : Nat) (h : o + A.length ≤ D.length) : abg D o A = D.take o ++ A ++ D.drop (o + A.length) := by
 apply List.ext_getElem?
 intro j
 by_cases G : j < D.length
 ·rw [als _ _ _ _ G]
  by_cases F : o ≤ j ∧ j < o + A.length
  ·rw [qw F, List.append_assoc, List.getElem?_append_right (by rw [List.length_take]; omega), List.getElem?_append_left (by rw [List.length_take]; omega), List.length_take, Nat.min_eq_left (by omega)]
  ·rw [qk F]
   by_cases H : j < o
   ·rw [List.append_assoc, List.getElem?_append_left (by rw [List.length_take]; omega), List.getElem?_take, qw H]
   ·rw [List.getElem?_append_right (by simp; omega), List.getElem?_drop]
    congr 1; simp; omega
 ·rw [List.getElem?_eq_none (by rw [ab7]; omega), List.getElem?_eq_none (by simp; omega)]
theorem ahs {α : Type} {enc : α → List Value} {m : Nat} (F : ∀ x, (enc x).length = m) (L : List α) (i : Nat) (hi : i < L.length) (z : List Value) (G : z.length = m) :
 (abg (abg (L.flatMap enc) (i * m) ((L.drop (i + 1)).flatMap enc)) ((L.length - 1) * m) z).take ((L.length - 1) * m) = (L.eraseIdx i).flatMap enc := by
 have D := abp F L
 have A := abp F (L.drop (i + 1))
 have J : (L.length - 1) * m + m = L.length * m := by
  rw [← Nat.succ_mul]; congr 1; omega
 have I : (i + 1) * m + (L.length - (i + 1)) * m = L.length * m := by
  rw [← Nat.add_mul]; congr 1; omega
 have H : (i + 1) * m = i * m + m := Nat.succ_mul i m
 rw [List.length_drop] at A
 have K : i * m + (L.length - (i + 1)) * m = (L.length - 1) * m := by rw [← Nat.add_mul]; congr 1; omega
 rw [aef _ _ _ (by rw [ab7, D, G]; omega), aef _ _ _ (by rw [D, A]; omega), List.append_assoc, List.take_append_of_le_length (by rw [List.length_take, jz, jz, List.length_take, List.length_drop, D, A]; omega)]
 rw [List.take_take, Nat.min_self, List.take_append_of_le_length (by rw [jz, List.length_take, D, A]; omega), List.take_of_length_le (by rw [jz, List.length_take, D, A]; omega)]
 rw [List.eraseIdx_eq_take_drop_succ, List.flatMap_append, ag8 F]
theorem aev {P : Program} (w : World) (t e J : TypeId) (z : Value) (A : List Value) (U : P.underlying t = some (.slice e)) (N : ∀ w, (zeroValue e).run P w = .ok z w) (O : z.cells = A.toArray) (G : ∀ v ∈ A, v.oneCell' = true) (b o n c : Nat) (M : n = 1)
 (I : ∀ j, j < A.length → (w.cell? ⟨b, o + j, none⟩).isSome = true) (K : ∀ j, j < A.length → w.frozen? ⟨b, o + j, none⟩ = false) :
 (Builtin.clear_ #[t] J #[.slice (some ⟨b, o, none⟩) n c]).run P w = .ok (.tuple #[]) (w.setCells b o A) := by
 subst M
 have H : (Builtin.zeroCells z.cells 1).toList = A := by
  rw [O]; simp [Builtin.zeroCells]; apply List.ext_getElem
  ·simp
  ·intro i G F
   have : i % A.length = i := Nat.mod_eq_of_lt F; simp [this, F]
 have D := run_storeCells_cells (P := P) b o A 0 w (by simpa using I) (by simpa using K) G
 simp only [Nat.add_zero] at D
 simp [Builtin.clear_, run_underlying U, N, H, D]
theorem afr {P : Program} {H elem : TypeId} {m bytes : Nat} (w : World) (sT O : TypeId) (b o D J : Nat) (a : Addr) (F K n : Nat) (A : List Value)
 (I : ElemT P H elem m bytes) (Z : n = Nat.min F D) (X : A.length = n * m)
 (M : ∀ j v, A[j]? = some v → w.cell? (a.add j) = some v) (Y : ∀ j, j < A.length → (w.cell? ⟨b, o + j, none⟩).isSome = true) (U : ∀ j, j < A.length → w.frozen? ⟨b, o + j, none⟩ = false) (W : ∀ v ∈ A, v.oneCell' = true) :
 (Builtin.copy_ #[H, sT] O #[.slice (some ⟨b, o, none⟩) D J, .slice (some a) F K]).run P w = .ok (goInt n) (w.setCells b o A) := by
 obtain ⟨i, aa, hi, hz, hs, z, h⟩ := I.ex
 have G := run_loadCells_list (P := P) w a A M
 have N := run_storeCells_cells (P := P) b o A 0 w (by simpa using Y) (by simpa using U) W
 rw [X] at G
 simp [Builtin.copy_, run_underlying I.ht, Builtin.lenOf, Builtin.firstCells, sizeOf, typeInfo, hi, hs, ← Z, G, N]
theorem afb {P : Program} (w : World) (t G Y e : TypeId) (i : TypeInfo) (z : Value) (k kn : IntKind) (h : P.underlying t = some (.slice e)) (U : P.underlying G = some (.int kn)) (hi : P.info? e = some i) (Z : i.zero = some z)
 (b : Addr) (A D n : Nat) (F : List Value) (W : F.length = A * i.size) (H : ∀ j v, F[j]? = some v → w.cell? (b.add j) = some v)
 (h0 : 0 < n) (hs : 0 < i.size) (hg : D < A + n) (ab : ((A + n : Nat) : Int) ≤ 9223372036854775807) (aa : Builtin.nextslicecap (A + n) D * i.bytes ≤ 281474976710656) (ac : n * i.bytes ≤ 281474976710656) :
 (Builtin.append_ #[t, G] Y #[.slice (some b) A D, .int k n]).run P w =
  .ok (.slice (some ⟨w.heap.size, 0, none⟩) (A + n) (grownCap w (A + n) D e)) (w.drew.alloc (.cells (F.toArray ++ Builtin.zeroCells z.cells n ++ Builtin.zeroCells z.cells (grownCap w (A + n) D e - (A + n))) e)) := by
 have hn : ¬ (A + n ≤ D) := by omega
 have X : n ≠ 0 := by omega
 have hw : IntKind.i64.wrap (n : Int) = n := by rw [IntKind.wrap_i64]; omega
 have I : ¬ (9223372036854775807 < ((A : Int) + (n : Int))) := by omega
 have M : ¬ (281474976710656 < Builtin.nextslicecap (A + n) D * i.bytes) := by omega
 have J : ¬ (281474976710656 < (n : Int) * (i.bytes : Int)) := by
  rw [← Int.natCast_mul]; omega
 have K : ¬ ((n : Int) < 0) := by omega
 have N : ¬ (n * i.size = 0) := Nat.mul_ne_zero X (by omega)
 have O := run_firstCells_some (P := P) w.drew i.size A b A D F W (by simpa using H)
 simp [Builtin.append_, run_underlying h, run_underlying U, sizeOf, typeInfo, zeroValue, hi, Z, asInt, asIntOf, hw, hn, K, N, I, M, J, Question.forced, O, newRow, grownCap]
theorem ads (z : Array Value) (n : Nat) : (Builtin.zeroCells z n).size = n * z.size := by simp [Builtin.zeroCells]
theorem auq {base : Nat} {e : TypeId} {m : Nat} (w : World) (D : List Value) (z : Array Value) (k n A : Nat) (G : z.size = m) (F : D.length = k * m) (N : base ≤ w.heap.size) (M : k + n ≤ A) (J : A ≤ maxLen) :
 (w.alloc (.cells (D.toArray ++ Builtin.zeroCells z n ++ Builtin.zeroCells z (A - (k + n))) e)).ownsRow base e m (.slice (some ⟨w.heap.size, 0, none⟩) (k + n) A) (k + n) (D ++ (Builtin.zeroCells z n).toList) := by
 have I : (k + n) * m = k * m + n * m := Nat.add_mul k n m
 have K : k * m + n * m + (A - (k + n)) * m = A * m := by rw [← Nat.add_mul, ← Nat.add_mul]; congr 1; omega
 refine ⟨by rw [jz, F, Array.length_toList, ads, G, I], .inr ⟨w.heap.size, A, _, rfl, N, heap_alloc_new w _, M, J, ?_, ?_⟩⟩
 ·simp only [Array.size_append, ads, G, List.size_toArray, F]; exact K
 ·rw [Array.toList_append, Array.toList_append]
  have H : (D.toArray.toList ++ (Builtin.zeroCells z n).toList).length = (k + n) * m := by
   simp only [jz, Array.length_toList, ads, G, F, I]
  rw [List.take_append_of_le_length (by rw [H]; exact qj _), List.take_of_length_le (by rw [H]; exact qj _)]
theorem axk {base : Nat} {e : TypeId} {m n A g : Nat} {w : World} {I : List Value} (h : w.ownsRow base e m (.slice (some ⟨g, 0, none⟩) n A) n I) (J : n + 1 ≤ A) :
 ∃ H : List Value, H.length = m ∧ w.ownsRow base e m (.slice (some ⟨g, 0, none⟩) (n + 1) A) (n + 1) (I ++ H) := by
 obtain ⟨W, F⟩ := h
 rcases F with ⟨F, _⟩ | ⟨Z, Y, G, K, X, U, k1, O, D, N⟩
 ·simp at F
 ·simp only [Value.slice.injEq, jy, Addr.mk.injEq, and_true, true_and] at K
  obtain ⟨rfl, rfl⟩ := K; have M : (n + 1) * m = n * m + m := Nat.succ_mul n m; have z : (n + 1) * m ≤ A * m := Nat.mul_le_mul_right m J; refine ⟨(G.toList.drop (n * m)).take m, ?_, ?_, .inr ⟨g, A, G, rfl, X, U, J, O, D, ?_⟩⟩
  ·rw [List.length_take, List.length_drop, Array.length_toList, D]; omega
  ·rw [jz, W, List.length_take, List.length_drop, Array.length_toList, D, M]; omega
  ·rw [M, List.take_add, N]
theorem anu {α : Type} {enc : α → List Value} {m : Nat} (I : ∀ x, (enc x).length = m) (L : List α) (i : Nat) (hi : i ≤ L.length) (x : α) (A : List Value) (hy : A.length = (L.length + 1) * m) (N : A.take (i * m) = (L.take i).flatMap enc) :
 abg (abg A (i * m) (enc x)) ((i + 1) * m) ((L.drop i).flatMap enc) = (L.take i ++ x :: L.drop i).flatMap enc ∧
 abg (abg A ((i + 1) * m) ((L.drop i).flatMap enc)) (i * m) (enc x) = (L.take i ++ x :: L.drop i).flatMap enc := by
 have F : ((L.drop i).flatMap enc).length = (L.length - i) * m := by rw [abp I, List.length_drop]
 have J : (i + 1) * m = i * m + m := Nat.succ_mul i m
 have W : (i + 1) * m + (L.length - i) * m = (L.length + 1) * m := by rw [← Nat.add_mul]; congr 1; omega
 have D := I x
 rw [List.flatMap_append, List.flatMap_cons, ← N]
 have K : (A.take (i * m)).length = i * m := by rw [List.length_take, hy]; have := Nat.mul_le_mul_right m hi; rw [Nat.succ_mul]; omega
 have O : i * m ≤ L.length * m := Nat.mul_le_mul_right m hi
 have U : (L.length + 1) * m = L.length * m + m := Nat.succ_mul _ _
 constructor
 ·have H : (A.take (i * m) ++ enc x).length = (i + 1) * m := by rw [jz, K, D, J]
  rw [aef _ _ _ (by rw [ab7, hy, F]; omega), aef _ _ _ (by rw [D, hy]; omega)]; rw [List.take_left' H, List.drop_eq_nil_of_le («as» := A.take (i * m) ++ enc x ++ _) (by rw [jz, H, F, List.length_drop, hy, D]; omega), List.append_nil, List.append_assoc]
 ·have G : (A.take ((i + 1) * m)).length = (i + 1) * m := by rw [List.length_take, hy]; omega
  rw [aef _ _ _ (by rw [ab7, D, hy]; omega), aef _ _ _ (by rw [F, hy]; omega)]; have M : List.drop ((i + 1) * m + ((L.drop i).flatMap enc).length) A = [] := List.drop_eq_nil_of_le (by rw [F, hy]; omega); rw [M, List.append_nil, D, ← J, List.drop_left' G, List.take_append_of_le_length (by rw [G]; omega), List.take_take, Nat.min_eq_left (by omega), List.append_assoc]
theorem Own.toRow {α : Type} {base : Nat} {e : TypeId} {m : Nat} {enc : α → List Value} {w : World} {v : Value} {L : List α} {n : Nat} {A : List Value} (h : w.ownsRow base e m v n A) (F : n = L.length) (D : A = L.flatMap enc) : Own base e m enc w v L := by
 subst F D; exact h
theorem adx {base : Nat} {e : TypeId} {m n D g : Nat} {w : World} {A : List Value} (h : w.ownsRow base e m (.slice (some ⟨g, 0, none⟩) n D) n A) (t : Nat) (u : Value) (F : A[t]? = some u) : w.cell? ⟨g, t, none⟩ = some u := by
 have := World.ownsRow.cells h (g := g) rfl t u F
 have e : (⟨g, 0, none⟩ : Addr).add t = ⟨g, t, none⟩ := by unfold Addr.add; split <;> simp_all
 rw [← e]; exact this
theorem afs {base : Nat} {e : TypeId} {m n D g : Nat} {w : World} {G : List Value} (h : w.ownsRow base e m (.slice (some ⟨g, 0, none⟩) n D) n G) (t : Nat) : w.frozen? ⟨g, t, none⟩ = false := by
 rcases h.2 with ⟨A, _⟩ | ⟨K, H, J, A, I, F, _⟩
 ·simp at A
 ·simp only [Value.slice.injEq, jy, Addr.mk.injEq, and_true, true_and] at A
  obtain ⟨rfl, _⟩ := A; simp [World.frozen?, F]
theorem anv {base : Nat} {e : TypeId} {m n D g : Nat} {w : World} {G : List Value} (h : w.ownsRow base e m (.slice (some ⟨g, 0, none⟩) n D) n G) : w.shape? g = some (e, D * m) := by
 rcases h.2 with ⟨A, _⟩ | ⟨K, H, J, A, I, F, _, _, hs, _⟩
 ·simp at A
 ·simp only [Value.slice.injEq, jy, Addr.mk.injEq, and_true, true_and] at A
  obtain ⟨rfl, rfl⟩ := A; simp [World.shape?, F, hs]
theorem Blk.shape {w : World} {b : Nat} {A : List Value} (h : Blk w b A) : ∃ T, w.shape? b = some (T, A.length) := by
 obtain ⟨T, h⟩ := h; exact ⟨T, by simp [World.shape?, h]⟩
theorem anw {P : Program} (w : World) {o : Oper} {a : Act} {K : Act → World → Prop} {Q : Exit → Act → World → Prop} (d s : Operand) (t A : TypeId)
 (G : o.op = .call { callee := .builtin .copy, args := #[d, s], argTypes := #[t, A] }) (v u : Value) (I : a.eval d = v) (hs : a.eval s = u) {F : Value} {D : World}
 (H : (Builtin.copy_ #[t, A] o.type #[v, u]).run P w = .ok F D) (h : K (a.put o.dst F) D) : o.wp P a w K Q := by
 unfold Oper.wp execOp
 simp only [G, resolve, invoke, builtin, Sem.run_bind, Sem.run_pure, Result.andThen_ok, List.map_toArray, List.map_cons, List.map_nil, I, hs, H]
 exact h
theorem acp {P : Program} (w : World) {F : Array Oper} {D : List Oper} {o : Oper} {a : Act} {Q : Exit → Act → World → Prop} (I : o.guard = none) (d s : Operand) (t A : TypeId)
 (J : o.op = .call { callee := .builtin .copy, args := #[d, s], argTypes := #[t, A] }) (v u : Value) (M : a.eval d = v) (hs : a.eval s = u) {H : Value} {G : World}
 (K : (Builtin.copy_ #[t, A] o.type #[v, u]).run P w = .ok H G) (h : wpList P F Q D (a.put o.dst H) G) : wpList P F Q (o :: D) a w :=
 wpList_plain I fun _ hK => anw w d s t A J v u M hs K (hK _ _ h)
theorem adc {P : Program} {A : Array Oper} {o : Oper} {a : Act} {w : World} {K : Act → World → Prop} {Q : Exit → Act → World → Prop} {Z : Prop}
 (I : o.guard = none) (d x : Operand) (F sT : TypeId) (H : o.op = Op.call { callee := Callee.builtin Builtin.copy, args := #[d, x], argTypes := #[F, sT] })
 (v u : Value) (N : a.eval d = v) (M : a.eval x = u) {G : Value} {D : World} (J : (Builtin.copy_ #[F, sT] o.type #[v, u]).run P w = .ok G D) (hK : K (a.put o.dst G) D) :
 if Region.wanted o (yielded A a.tmps) = true then Oper.wp P o a w K Q else Z := by
 have O : Region.wanted o (yielded A a.tmps) = true := by simp [Region.wanted, I]
 rw [qw O]
 unfold Oper.wp
 simp [execOp, H, resolve, invoke, builtin, N, M, J, Result.andThen]
 exact hK
section
variable {P : Program} {α : Type} {enc : α → List Value} {m T E by_ base : Nat}
def aj6 (E m base : Nat) (enc : α → List Value) (w : World) (v : Value) (L : List α) (e : Ending) (w' : World) : Prop :=
 ∃ r, e = .returned r ∧ Own base E m enc w' r L ∧ Upd (fun k => v.ownBlock = some k) w w' ∧ (∀ k, r.ownBlock = some k → v.ownBlock = some k ∨ w.heap.size ≤ k)
theorem anx (g o j : Nat) : (⟨g, o, none⟩ : Addr).add j = ⟨g, o + j, none⟩ := by unfold Addr.add; split <;> simp_all
theorem aew {P : Prop} (h : P := by
 rcases h.cases with ⟨h', _⟩ | ⟨g', cap', h', _, _, k1, k2⟩
 ·simp at h'
 ·simp only [Value.slice.injEq] at h'; unfold maxLen at k2; omega) : P := h
theorem aqo (el : ElemT P T E m by_) (F : ∀ x, (enc x).length = m) (h1 : ∀ x, ∀ u ∈ enc x, u.oneCell' = true) (w : World) (g A i : Nat) (L : List α) (x : α) (O : Nat) (h : Own base E m enc w (.slice (some ⟨g, 0, none⟩) L.length A) L) (hi : i < L.length) (ae : L.length + 1 ≤ A) (hx : Blk w O (enc x)) (ak : O ≠ g) :
 ∃ (N : World) (S1 K : List Value), (w.ownsRow base E m (.slice (some ⟨g, 0, none⟩) (L.length + 1) A) (L.length + 1) (L.flatMap enc ++ K)) ∧
 (∀ D J H Y Z, J = L.length - i → Y = L.length + 1 - i → (Builtin.copy_ #[T, T] D #[.slice (some ⟨g, (i + 1) * m, none⟩) J H, .slice (some ⟨g, i * m, none⟩) Y Z]).run P w.drew = .ok (goInt (L.length - i : Nat)) N) ∧
 (∀ (W : World), (∀ p, W.cell? p = N.cell? p) → (∀ p, W.frozen? p = N.frozen? p) → ∀ D J H, 1 ≤ J → (Builtin.copy_ #[T, T] D #[.slice (some ⟨g, i * m, none⟩) J H, .slice (some ⟨O, 0, none⟩) 1 1]).run P W = .ok (goInt 1) (W.setCells g (i * m) (enc x))) ∧
 Upd (· = g) w N ∧ N.ownsRow base E m (.slice (some ⟨g, 0, none⟩) (L.length + 1) A) (L.length + 1) S1 ∧ abg S1 (i * m) (enc x) = (L.take i ++ x :: L.drop i).flatMap enc ∧ A ≤ 9223372036854775807 := by
 obtain ⟨K, al, M⟩ := axk h ae
 have ag : A ≤ 9223372036854775807 := by
  exact aew
 have ab : (L.flatMap enc).length = L.length * m := abp F L
 have aa : ((L.drop i).flatMap enc).length = (L.length - i) * m := by rw [abp F, List.length_drop]
 have X : (L.flatMap enc ++ K).length = (L.length + 1) * m := by rw [jz, ab, al, Nat.succ_mul]
 have aq : (i + 1) * m + (L.length - i) * m = (L.length + 1) * m := by rw [← Nat.add_mul]; congr 1; omega
 have ao : i * m + m ≤ (L.length + 1) * m := by rw [← Nat.succ_mul]; exact Nat.mul_le_mul_right m (by omega)
 have am : ∀ j u, ((L.drop i).flatMap enc)[j]? = some u → (L.flatMap enc ++ K)[i * m + j]? = some u := fun j u I => by
  rw [aee F, List.getElem?_drop] at I; rw [List.getElem?_append_left (List.getElem?_eq_some_iff.1 I).1]; exact I
 have ad : ∀ t, t < (L.length + 1) * m → (w.cell? ⟨g, t, none⟩).isSome = true := fun t ht => by
  rw [adx M t _ (List.getElem?_eq_getElem (by rw [X]; exact ht))]; rfl
 have U : (w.drew.setCells g ((i + 1) * m) ((L.drop i).flatMap enc)).ownsRow base E m (.slice (some ⟨g, 0, none⟩) (L.length + 1) A) (L.length + 1) (abg (L.flatMap enc ++ K) ((i + 1) * m) ((L.drop i).flatMap enc)) := abh _ _ w.drew _ M
 have z : Upd (· = g) w (w.drew.setCells g ((i + 1) * m) ((L.drop i).flatMap enc)) := (Upd.drew (Upd.refl (· = g) w)).trans (abz (S := (· = g)) rfl _ _ _) (fun _ h _ => h)
 have aj := hx.upd z ak
 have ai : (abg (L.flatMap enc ++ K) ((i + 1) * m) ((L.drop i).flatMap enc)).length = (L.length + 1) * m := by rw [ab7, X]
 refine ⟨_, _, K, M, fun D J H Y Z af an => ?_, fun W ac ah D J H af => ?_, z, U, (anu F L i (by omega) x _ X (by rw [List.take_append_of_le_length (by rw [ab]; exact Nat.mul_le_mul_right m (by omega)), ag8 F])).2, ag⟩
 ·exact afr w.drew _ D g ((i + 1) * m) _ H ⟨g, i * m, none⟩ _ Z (L.length - i) _ el (by simp only [Nat.min_def]; split <;> omega) aa
   (fun j u G => by rw [anx]; exact adx M _ _ (am j u G))
   (fun j G => ad _ (by rw [aa] at G; omega)) (fun j _ => afs M _)
   (fun u I => by obtain ⟨y, _, hy⟩ := List.mem_flatMap.1 I; exact h1 y u hy)
 ·exact afr W _ D g (i * m) _ H ⟨O, 0, none⟩ _ 1 1 _ el (by simp only [Nat.min_def]; split <;> omega) (by rw [F, Nat.one_mul])
   (fun j u G => by rw [anx, Nat.zero_add, ac]; exact (aj.cell j).trans G)
   (fun j G => by
    rw [F] at G
    rw [ac, adx U _ _ (List.getElem?_eq_getElem (by rw [ai]; omega))]; rfl)
   (fun j _ => by rw [ah]; exact afs U _) (fun u I => h1 x u I)
theorem ah5 {w W : World} {g A i : Nat} {L : List α} {x : α} {F : List Value} (hi : i ≤ L.length) (G : W.ownsRow base E m (.slice (some ⟨g, 0, none⟩) (L.length + 1) A) (L.length + 1) F) (H : abg F (i * m) (enc x) = (L.take i ++ x :: L.drop i).flatMap enc) (J : Upd (· = g) w W) :
 aj6 E m base enc w (.slice (some ⟨g, 0, none⟩) L.length A) (L.take i ++ x :: L.drop i) (.returned (.slice (some ⟨g, 0, none⟩) (L.length + 1) A)) (W.setCells g (i * m) (enc x)) := by
 have I := J.mono (T := fun k => (Value.slice (some ⟨g, 0, none⟩) L.length A).ownBlock = some k) (fun k D _ => by rw [D]; rfl)
 exact ⟨_, rfl, Own.toRow (n := L.length + 1) (H ▸ abh _ _ _ _ G) (by simp; omega) rfl, I.trans (abz (S := fun k => (Value.slice (some ⟨g, 0, none⟩) L.length A).ownBlock = some k) rfl _ _ _) (fun _ h _ => h), fun k D => .inl D⟩
theorem aqp {Y : Nat} (U : ElemT P T E m by_) (az : P.underlying Y = some (.int .i64)) (ak : by_ ≤ 1000) (K : ∀ x, (enc x).length = m) (h1 : ∀ x, ∀ u ∈ enc x, u.oneCell' = true) (w : World) (g D i : Nat) (L : List α) (x : α) (X : Nat) (h : Own base E m enc w (.slice (some ⟨g, 0, none⟩) L.length D) L) (ao : base ≤ w.heap.size) (hL : L.length ≤ 1000000) (hi : i < L.length) (ba : D < L.length + 1) (hx : Blk w X (enc x)) :
 ∃ (G : Nat) (I F : World) (S2 : List Value), (∀ A, (Builtin.append_ #[T, Y] A #[.slice (some ⟨g, 0, none⟩) i D, .int .i64 ((L.length : Int) + 1 - i)]).run P w = .ok (.slice (some ⟨w.heap.size, 0, none⟩) (L.length + 1) G) I) ∧
 (∀ A N J, 1 ≤ N → (Builtin.copy_ #[T, T] A #[.slice (some ⟨w.heap.size, i * m, none⟩) N J, .slice (some ⟨X, 0, none⟩) 1 1]).run P I = .ok (goInt 1) F) ∧
 (∀ A N J sl sc, N = L.length - i → sl = L.length - i → (Builtin.copy_ #[T, T] A #[.slice (some ⟨w.heap.size, (i + 1) * m, none⟩) N J, .slice (some ⟨g, i * m, none⟩) sl sc]).run P F.drew = .ok (goInt (L.length - i : Nat)) (F.drew.setCells w.heap.size ((i + 1) * m) ((L.drop i).flatMap enc))) ∧
 Below w.heap.size w F ∧ F.ownsRow base E m (.slice (some ⟨w.heap.size, 0, none⟩) (L.length + 1) G) (L.length + 1) S2 ∧ abg S2 ((i + 1) * m) ((L.drop i).flatMap enc) = (L.take i ++ x :: L.drop i).flatMap enc ∧ L.length + 1 ≤ G ∧ G ≤ maxLen ∧ L.length ≤ D := by
 have au : L.length ≤ D := by
  rcases h.cases with ⟨h', _⟩ | ⟨g', bb, h', _, _, k1, k2⟩
  ·simp at h'
  ·simp only [Value.slice.injEq] at h'; omega
 have ay : g < w.heap.size := h.lt rfl
 obtain ⟨i0, z, ar, a1, aj, am, an⟩ := U.ex
 have bc := U.pos
 have O : ((L.take i).flatMap enc).length = i * m := by rw [abp K, List.length_take]; congr 1; omega
 have al : ((L.drop i).flatMap enc).length = (L.length - i) * m := by rw [abp K, List.length_drop]
 have bf : (i + 1) * m + (L.length - i) * m = (L.length + 1) * m := by rw [← Nat.add_mul]; congr 1; omega
 have bg : i * m + m ≤ (L.length + 1) * m := by rw [← Nat.succ_mul]; exact Nat.mul_le_mul_right m (by omega)
 obtain ⟨c, hc⟩ := zj (L.length + 1 - i)
 have W : i + c = L.length + 1 := by omega
 have a0 : (L.length + 1) * by_ ≤ 140737488355328 := jk (Nat.mul_le_mul (show L.length + 1 ≤ 1000001 by omega) ak) (by omega)
 have ax : c * by_ ≤ 281474976710656 := jk (Nat.mul_le_mul (show c ≤ 1000001 by omega) ak) (by omega)
 have ac : ∀ A, (Builtin.append_ #[T, Y] A #[.slice (some ⟨g, 0, none⟩) i D, .int .i64 ((L.length : Int) + 1 - i)]).run P w =
  .ok (.slice (some ⟨w.heap.size, 0, none⟩) (L.length + 1) (grownCap w (L.length + 1) D E)) (w.drew.alloc (.cells (((L.take i).flatMap enc).toArray ++ Builtin.zeroCells z.cells c ++ Builtin.zeroCells z.cells (grownCap w (L.length + 1) D E - (L.length + 1))) E)) := fun A => by
  have := afb  w T Y A E i0 _ .i64 .i64 U.ht az ar a1 ⟨g, 0, none⟩ i D c ((L.take i).flatMap enc) (by rw [aj]; exact O)
   (fun j u M => by
    rw [anx, Nat.zero_add]; have H : j < i * m := by rw [← O]; exact (List.getElem?_eq_some_iff.1 M).1
    rw [ag8 K, List.getElem?_take, qw H] at M
    exact adx h j u M)
   (by omega) (by rw [aj]; omega) (by omega) (by omega) (by rw [W]; exact growslice_fits (by omega) (by rw [am]; exact a0)) (by rw [am]; exact ax)
  rw [W] at this; have e1 : ((L.length : Int) + 1 - i) = (c : Int) := by omega
  rw [e1]; exact this
 have ah := grownCap_ge w (L.length + 1) D E
 have ab : grownCap w (L.length + 1) D E ≤ maxLen := grownCap_le_maxLen _ _ _ _ (by unfold maxLen; omega)
 generalize grownCap w (L.length + 1) D E = G at ac ah ab
 obtain ⟨I, ae⟩ := zj (w.drew.alloc (.cells (((L.take i).flatMap enc).toArray ++ Builtin.zeroCells z.cells c ++ Builtin.zeroCells z.cells (G - (L.length + 1))) E))
 have Z : I.ownsRow base E m (.slice (some ⟨w.heap.size, 0, none⟩) (L.length + 1) G) (L.length + 1) ((L.take i).flatMap enc ++ (Builtin.zeroCells z.cells c).toList) := by
  have := auq (base := base) (e := E) (m := m) w.drew ((L.take i).flatMap enc) z.cells i c G an O ao (by omega) ab; rw [W] at this; rw [ae]; exact this
 have ad : Below w.heap.size w I := by rw [ae]; exact (aad (qz w.heap.size w)).alloc (qj _) _
 rw [← ae] at ac
 have ag : ((L.take i).flatMap enc ++ (Builtin.zeroCells z.cells c).toList).length = (L.length + 1) * m := by
  have hz : (Builtin.zeroCells z.cells c).toList.length = c * m := by rw [Array.length_toList, ads, an]
  rw [jz, O, hz, ← Nat.add_mul, W]
 have aw : Blk I X (enc x) := hx.pure ad
 obtain ⟨F, af⟩ := zj (I.setCells w.heap.size (i * m) (enc x))
 have aa : F.ownsRow base E m (.slice (some ⟨w.heap.size, 0, none⟩) (L.length + 1) G) (L.length + 1) (abg ((L.take i).flatMap enc ++ (Builtin.zeroCells z.cells c).toList) (i * m) (enc x)) := by
  rw [af]; exact abh _ _ I _ Z
 have av : (abg ((L.take i).flatMap enc ++ (Builtin.zeroCells z.cells c).toList) (i * m) (enc x)).length = (L.length + 1) * m := by rw [ab7, ag]
 have ai : Below w.heap.size w F := by
  rw [af]; exact ad.trans (Upd.below (abz (S := (· = w.heap.size)) rfl _ _ _) ad.size (fun k hk => by omega))
 refine ⟨G, I, F, _, ac, fun A N J aq => ?_, fun A N J sl sc aq bd => ?_, ai, aa, (anu K L i (by omega) x _ ag (by rw [List.take_left' O])).1, ah, ab, au⟩
 ·rw [af]
  exact afr I _ A w.heap.size (i * m) _ J ⟨X, 0, none⟩ _ 1 1 _ U (by simp only [Nat.min_def]; split <;> omega) (by rw [K, Nat.one_mul])
   (fun j u H => by rw [anx, Nat.zero_add]; exact (aw.cell j).trans H)
   (fun j H => by
    rw [K] at H
    rw [adx Z _ _ (List.getElem?_eq_getElem (by rw [ag]; omega))]; rfl)
   (fun j _ => afs Z _) (fun u M => h1 x u M)
 ·exact afr F.drew _ A w.heap.size ((i + 1) * m) _ J ⟨g, i * m, none⟩ _ sc (L.length - i) _ U (by simp only [Nat.min_def]; split <;> omega) al
   (fun j u H => by
    rw [aee K, List.getElem?_drop] at H; rw [anx]
    exact (ai.cell (p := ⟨g, i * m + j, none⟩) ay).trans (adx h _ _ H))
   (fun j H => by
    rw [al] at H; show (F.cell? _).isSome = true
    rw [adx aa _ _ (List.getElem?_eq_getElem (by rw [av]; omega))]; rfl)
   (fun j _ => afs aa _)
   (fun u M => by obtain ⟨y, _, hy⟩ := List.mem_flatMap.1 M; exact h1 y u hy)
theorem ah6 {w W : World} {v : Value} {A i : Nat} {L : List α} {x : α} {F : List Value} (hi : i ≤ L.length) (H : W.ownsRow base E m (.slice (some ⟨w.heap.size, 0, none⟩) (L.length + 1) A) (L.length + 1) F) (I : abg F ((i + 1) * m) ((L.drop i).flatMap enc) = (L.take i ++ x :: L.drop i).flatMap enc) (D : Below w.heap.size w W) :
 aj6 E m base enc w v (L.take i ++ x :: L.drop i) (.returned (.slice (some ⟨w.heap.size, 0, none⟩) (L.length + 1) A)) (W.drew.setCells w.heap.size ((i + 1) * m) ((L.drop i).flatMap enc)) := by
 refine ⟨_, rfl, Own.toRow (n := L.length + 1) (I ▸ abh _ _ W.drew _ H) (by simp; omega) rfl, Upd.of_below ((aad D).trans (Upd.below (abz (S := (· = w.heap.size)) rfl _ _ _) D.size (fun k G => by omega))), fun k G => ?_⟩
 have : w.heap.size = k := by simpa [Value.ownBlock] using G
 right; omega
theorem aur {w F : World} {a : Option Addr} {A D G : Nat} {L : List α} {x : α} (J : Own base E m enc F (.slice (some ⟨A, 0, none⟩) (L.length + 1) G) (L ++ [x])) (M : Upd (fun k => (Value.slice a L.length D).ownBlock = some k) w F) (H : (Value.slice a L.length D).ownBlock = some A ∨ A = w.heap.size) :
 aj6 E m base enc w (.slice a L.length D) (L ++ [x]) (.returned (.slice (some ⟨A, 0, none⟩) (L.length + 1) G)) F := by
 refine ⟨_, rfl, J, M, fun k K => ?_⟩
 have I : A = k := by simpa [Value.ownBlock] using K
 subst I
 rcases H with h | h
 ·exact .inl h
 ·right; omega
end
def aft (base : Nat) (w : World) (v : Value) (L : List QuT) (e : Ending) (w' : World) : Prop := aj6 51 3 base aar w v L e w'
theorem akt {base : Nat} (w : World) (v : Value) (L : List QuT) (x : QuT) (A : Nat) (h : Own base 51 3 aar w v L) (G : base ≤ w.heap.size) (z : L.length ≤ 1000000) (N : Blk w A (aar x)) :
 Calls prog 90 #[v, .int .i64 L.length, .slice (some ⟨A, 0, none⟩) 1 1] w (aft base w v (L ++ [x])) := by
 have H := qq h
 obtain ⟨a, D, rfl, W⟩ := (h.slc aaf).len
 unfold maxLen at W
 clear h
 have F : ∀ j u, (aar x)[j]? = some u → w.cell? ⟨A, j, none⟩ = some u := fun j u O => (N.cell j).trans O
 have I := qq F
 clear F
 obtain ⟨aa, Z⟩ := qx (if D = L.length then a else Option.map (fun x => x.add (L.length * 3)) a)
 go_enter func90, ntmps90
 go_wp2_with (at_builtin; refine af6 rfl (.tmp 23) (.tmp 24) 23 51 rfl afm aaf aea (.slice a L.length D) L rfl H.out A 1 x rfl I.out (by omega) (by unfold maxLen; omega) G ?_; intro Y X w2 U K J)
 go_ret
 exact aur U (Upd.grown K (fun k M => M)) J
theorem aj7 {base : Nat} (w : World) (g A i : Nat) (L : List QuT) (x : QuT) (D : Nat) (h : Own base 51 3 aar w (.slice (some ⟨g, 0, none⟩) L.length A) L) (hL : L.length ≤ 1000000) (hi : i < L.length) (W : L.length + 1 ≤ A) (F : Blk w D (aar x)) (O : D ≠ g) :
 Calls prog 90 #[.slice (some ⟨g, 0, none⟩) L.length A, .int .i64 i, .slice (some ⟨D, 0, none⟩) 1 1] w (aft base w (.slice (some ⟨g, 0, none⟩) L.length A) (L.take i ++ x :: L.drop i)) := by
 have mixed : prog.follows .mixedOrders = true := by kernel_rfl
 obtain ⟨W1, S1, ex, K, J, I, N, H, M, ad⟩ := aqo afm aaf aea w g A i L x D h hi W F O
 have Z : ∀ lb G, (callFunc 139 #[.slice (some ⟨D, 0, none⟩) 1 1, .slice (some ⟨g, (i + 1) * 3, none⟩) lb G]).run prog w = .ok (.value (.bool false)) w := fun lb G => by
  obtain ⟨TA, ab⟩ := F.shape; have ac := anv K
  rw [run_callFunc_extern func139 (by kernel_rfl) (by kernel_rfl) (by kernel_rfl) (e := Extern.SlicesOverlaps.overlaps #[23, 23] #[4]) (by kernel_rfl),
   Lib.run_overlaps_apart w 23 4 51 underlying23 3 (fun w => aie afm) ⟨D, 0, none⟩ ⟨g, (i + 1) * 3, none⟩ 1 1 lb G O _ _ _ _ ab ac (by omega) (F.frozen 0) (F.frozen _)]
  rfl
 have X := qq M; have U := qq H; have Y := qq N
 clear H M h K N
 have ak : ¬ (A = i) := by omega
 have ae : ¬ (A = i + 1) := by omega
 have aj : ¬ ((i : Int) = (L.length : Int)) := by omega
 have ag : (L.length : Int) + 1 ≤ (A : Int) := by omega
 have an : (0 : Int) ≤ (i : Int) + 1 := by omega
 have am : (i : Int) ≤ (L.length : Int) + 1 := by omega
 have ai : (i : Int) + 1 ≤ (L.length : Int) + 1 := by omega
 have al : IntKind.i64.wrap ((i : Int) + 1) = (i : Int) + 1 := IntWalk.i64_in _ (by omega)
 have ah : ((i : Int) + 1).toNat = i + 1 := by omega
 have af : ((L.length : Int) + 1).toNat = L.length + 1 := by omega
 go_enter func90, ntmps90
 go_wp2_with (simp only [Z])
 have z := qq J
 have aa := qq I
 clear J I
 go_region_law (refine adc rfl (.tmp 73) (.tmp 76) 23 23 rfl _ _ (by simp [Act.eval, Act.put]) (by simp [Act.eval, Act.put]) (z.out _ (L.length - i) (A - (i + 1)) (L.length + 1 - i) (A - i) (by omega) (by omega)) ?_)
 go_wp2_with (refine acp _ rfl (.tmp 80) (.tmp 81) 23 23 rfl _ _ rfl rfl (aa.out _ (fun _ => rfl) (fun _ => rfl) _ (L.length + 1 - i) (A - i) (by omega)) ?_)
 go_ret
 exact ah5 (Nat.le_of_lt hi) U.out X.out Y.out
theorem aj8 {base : Nat} (w : World) (g A i : Nat) (L : List QuT) (x : QuT) (F : Nat) (h : Own base 51 3 aar w (.slice (some ⟨g, 0, none⟩) L.length A) L) (O : base ≤ w.heap.size) (hL : L.length ≤ 1000000) (hi : i < L.length) (U : A < L.length + 1) (hx : Blk w F (aar x)) :
 Calls prog 90 #[.slice (some ⟨g, 0, none⟩) L.length A, .int .i64 i, .slice (some ⟨F, 0, none⟩) 1 1] w (aft base w (.slice (some ⟨g, 0, none⟩) L.length A) (L.take i ++ x :: L.drop i)) := by
 have mixed : prog.follows .mixedOrders = true := by kernel_rfl
 obtain ⟨D, W1, W2, S2, K, I, H, M, G, J, aa, X, ag⟩ := aqp afm underlying3 (by omega) aaf aea w g A i L x F h O hL hi U hx
 have ha := qq K
 have Z := qq I
 have z := qq H
 have W := qq J
 have N := qq G; have Y := qq M
 unfold maxLen at X
 clear K I H J G h M
 have ai : ¬ (A = i) := by omega
 have ab : ¬ (D = i + 1) := by omega
 have ak : ¬ (D = i) := by omega
 have af : ¬ ((i : Int) = (L.length : Int)) := by omega
 have ad : (A : Int) < (L.length : Int) + 1 := by omega
 have an : (0 : Int) ≤ (i : Int) + 1 := by omega
 have ah : (i : Int) + 1 ≤ (L.length : Int) + 1 := by omega
 have am : (i : Int) ≤ (L.length : Int) + 1 := by omega
 have aj : (i : Int) ≤ (A : Int) := by omega
 have ac : i ≤ L.length := by omega
 have al : IntKind.i64.wrap ((i : Int) + 1) = (i : Int) + 1 := IntWalk.i64_in _ (by omega)
 have ae : ((i : Int) + 1).toNat = i + 1 := by omega
 go_enter func90, ntmps90
 go_wp2_with (first | (at_builtin; refine Lib.wpList_append_run _ rfl (.tmp 34) (.tmp 39) 23 3 rfl _ _ rfl rfl _ _ (ha.out _) ?_) | (refine acp _ rfl (.tmp 43) (.tmp 44) 23 23 rfl _ _ rfl rfl (Z.out _ (L.length + 1 - i) (D - i) (by omega)) ?_))
 go_region_law (refine adc rfl (.tmp 50) (.tmp 53) 23 23 rfl _ _ (by simp [Act.eval, Act.put]) (by simp [Act.eval, Act.put]) (z.out _ (L.length - i) (D - (i + 1)) (L.length - i) (A - i) rfl rfl) ?_)
 go_wp2
 go_ret
 exact ah6 (Nat.le_of_lt hi) N.out W.out Y.out
theorem arv {base : Nat} (w : World) (v : Value) (i : Nat) (L : List QuT) (x : QuT) (A : Nat) (h : Own base 51 3 aar w v L) (J : base ≤ w.heap.size) (I : L.length ≤ 1000000) (hi : i ≤ L.length) (H : Blk w A (aar x)) (K : v.ownBlock ≠ some A) :
 Calls prog 90 #[v, .int .i64 i, .slice (some ⟨A, 0, none⟩) 1 1] w (aft base w v (L.take i ++ x :: L.drop i)) := by
 rcases Nat.lt_or_ge i L.length with D | D
 ·obtain ⟨g, F, rfl, _, _⟩ := h.shape (fun e => by rw [e] at D; simp at D)
  rcases Nat.lt_or_ge F (L.length + 1) with G | G
  ·exact aj8 w g F i L x A h J I D G H
  ·exact aj7 w g F i L x A h I D G H (fun e => K (by rw [e]; rfl))
 ·obtain rfl : i = L.length := by omega
  rw [js, List.drop_length]; exact akt w v L x A h J I H
theorem agk {P : Prop} (h : P := by
 rcases hown1.2 with ⟨h', _⟩ | ⟨g', cap', cur, h', hb', hg', _⟩
 ·simp at h'
 ·simp only [Value.slice.injEq, jy, Addr.mk.injEq, and_true, true_and] at h'
  obtain ⟨rfl, _⟩ := h'
  simp [World.frozen?, hg']) : P := h
theorem agl {P : Prop} (h : P := by
 have hu : Upd (· = g) w W1 := by rw [hW.out]; exact (Upd.drew (Upd.refl (· = g) w)).trans (abz (S := (· = g)) rfl _ _ _) (fun _ h _ => h)
 exact hu.trans (abz (S := (· = g)) rfl _ _ _) (fun _ h _ => h)) : P := h
theorem agm {P : Prop} (h : P := by
 refine ⟨⟨g, 0, none⟩, by simp [hc], qq (fun t u hu => ?_)⟩
 have h0 : news.length = 0 := by rw [hlen]; omega
 rw [List.length_eq_zero_iff.1 h0] at hu
 simp at hu) : P := h
theorem agn {P : Prop} (h : P := by
 have := World.ownsRow.cells h (g := g) rfl t u hu
 have e : (⟨g, 0, none⟩ : Addr).add t = ⟨g, 0 + t, none⟩ := by unfold Addr.add; split <;> simp_all
 rw [← e]; exact this) : P := h
theorem aj9 {base : Nat} (w : World) (g D i j : Nat) (W : j = i + 1) (L : List QuT) (h : Own base 51 3 aar w (.slice (some ⟨g, 0, none⟩) L.length D) L) (hi : i < L.length) (hL : L.length ≤ 1000000) :
 Calls prog 95 #[.slice (some ⟨g, 0, none⟩) L.length D, .int .i64 i, .int .i64 j] w fun e Z =>
  e = .returned (.slice (some ⟨g, 0, none⟩) (L.length - 1) D) ∧ Own base 51 3 aar Z (.slice (some ⟨g, 0, none⟩) (L.length - 1) D) (L.eraseIdx i) ∧ Upd (· = g) w Z := by
 have mixed : prog.follows .mixedOrders = true := by kernel_rfl
 obtain ⟨i0, ae, an, ad, ah⟩ := info_parts aqj
 have ab : L.length ≤ D ∧ D ≤ 9223372036854775807 := by
  exact aew
 have I : ∀ t u, (L.flatMap aar)[t]? = some u → w.cell? ⟨g, 0 + t, none⟩ = some u := fun t u hu => by
  exact agn
 have Y : ∀ t, w.frozen? ⟨g, t, none⟩ = false := fun t => h.frozen t
 obtain ⟨news, F⟩ := zj ((L.drop j).flatMap aar)
 have hlen : news.length = (L.length - j) * 3 := by rw [F, abp aaf]; simp
 have U : ∀ t, news[t]? = (L.flatMap aar)[j * 3 + t]? := fun t => by rw [F, aee aaf, List.getElem?_drop]
 obtain ⟨A, hA, ac⟩ : ∃ A : Addr, (if D = j then some (⟨g, 0, none⟩ : Addr) else some ⟨g, j * 3, none⟩) = some A ∧ Hid (∀ t u, news[t]? = some u → w.drew.cell? (A.add t) = some u) := by
  by_cases hc : D = j
  ·exact agm
  ·refine ⟨⟨g, j * 3, none⟩, by simp [hc], qq (fun t u hu => ?_)⟩
   rw [U t] at hu; have := I _ _ hu; have e : (⟨g, j * 3, none⟩ : Addr).add t = ⟨g, 0 + (j * 3 + t), none⟩ := by unfold Addr.add; split <;> simp_all
   rw [e]; exact this
 have s1 := qq hlen
 have s2 : Hid (∀ u ∈ news, u.oneCell' = true) := qq (by
  intro u hu; rw [F] at hu; obtain ⟨x, _, hx⟩ := List.mem_flatMap.1 hu
  exact aea x u hx)
 have K : (L.flatMap aar).length = L.length * 3 := abp aaf L
 have s3 : Hid (∀ t, t < news.length → (w.drew.cell? ⟨g, 0 + i * 3 + t, none⟩).isSome = true ∧ w.drew.frozen? ⟨g, 0 + i * 3 + t, none⟩ = false) := qq (by
  intro t H; rw [hlen] at H; have M : i * 3 + t < (L.flatMap aar).length := by rw [K]; omega
  refine ⟨?_, Y _⟩; show (w.cell? _).isSome = true
  rw [Nat.add_assoc, I _ _ (List.getElem?_eq_getElem M)]; rfl)
 obtain ⟨W1, J⟩ := zj (w.drew.setCells g (0 + i * 3) news)
 have hown1 : W1.ownsRow base 51 3 (.slice (some ⟨g, 0, none⟩) L.length D) L.length (abg (L.flatMap aar) (i * 3) news) := by
  have := abh news (i * 3) w.drew _ h; rw [J]; simpa using this
 have X : (abg (L.flatMap aar) (i * 3) news).length = L.length * 3 := by rw [ab7, K]
 have am : ∀ N, (Builtin.clear_ #[23] N #[.slice (some ⟨g, (i + (L.length - j)) * 3, none⟩) (L.length - (i + (L.length - j))) (D - (i + (L.length - j)))]).run prog W1 = .ok (.tuple #[]) (W1.setCells g ((i + (L.length - j)) * 3) [.string ⟨#[]⟩, .int .u64 0, .slice none 0 0]) := fun N => by
  refine aev W1 _ 51 N (.agg #[.string ⟨#[]⟩, .int .u64 0, .slice none 0 0]) _ underlying23 (fun w => by kernel_rfl) rfl (by simp [Value.oneCell']) g ((i + (L.length - j)) * 3) _ _ (by omega) (fun t H => ?_) (fun t H => ?_)
  ·simp only [jn, List.length_nil] at H
   have M : (i + (L.length - j)) * 3 + t < (abg (L.flatMap aar) (i * 3) news).length := by rw [X]; omega
   have := World.ownsRow.cells hown1 (g := g) rfl _ _ (List.getElem?_eq_getElem M); have e : (⟨g, 0, none⟩ : Addr).add ((i + (L.length - j)) * 3 + t) = ⟨g, (i + (L.length - j)) * 3 + t, none⟩ := by unfold Addr.add; split <;> simp_all
   rw [← e, this]; rfl
  ·exact agk
 have hW := qq J
 have aa := qq hown1
 have z := qq F
 clear J hown1 U F hlen I Y h X K
 obtain ⟨ai, ak⟩ := ab
 have al : j ≤ L.length := by omega
 have ag : j ≤ D := by omega
 have af : i < j := by omega
 have aj : ¬ i = j := by omega
 have O := qq W
 clear W
 have ao : i ≤ D := by omega
 go_enter func95, ntmps95
 go_wp2_with fail
 go_region_law (refine step_append_room rfl (.tmp 22) (.tmp 25) 23 rfl 51 i0 3 underlying23 ae ad g 0 i D (by simp [Act.eval, Act.put]) A (L.length - j) (D - j) news (by simp [Act.eval, Act.put]) s1.out ac.out s2.out (by omega) s3.out ?_; rw [← hW.out])
 go_wp2
 go_ret
 have e1 : i + (L.length - j) = L.length - 1 := by have := O.out; omega
 rw [e1]
 refine ⟨rfl, ?_, ?_⟩
 ·have G := apm (abh [.string ⟨#[]⟩, .int .u64 0, .slice none 0 0] ((L.length - 1) * 3) W1 _ aa.out) (n' := L.length - 1) (by omega)
  rw [z.out] at G; have hj := O.out; rw [hj] at G; rw [ahs aaf L i hi _ rfl] at G; unfold Own; rw [List.length_eraseIdx_of_lt hi]; exact G
 ·exact agl
theorem aku {base : Nat} (w : World) (g A i : Nat) (L : List QuT) (h : Own base 51 3 aar w (.slice (some ⟨g, 0, none⟩) L.length A) L) (hi : i < L.length) (F : L.length ≤ 1000000) :
 Calls prog 95 #[.slice (some ⟨g, 0, none⟩) L.length A, .int .i64 i, .int .i64 ((i : Int) + 1)] w fun e D =>
  e = .returned (.slice (some ⟨g, 0, none⟩) (L.length - 1) A) ∧ Own base 51 3 aar D (.slice (some ⟨g, 0, none⟩) (L.length - 1) A) (L.eraseIdx i) ∧ Upd (· = g) w D := by
 have := aj9 w g A i (i + 1) rfl L h hi F
 rwa [Int.natCast_add] at this
theorem ab9 (w : World) (e : Int) : Calls prog 89 #[.bool true, .int .i64 e] w fun r A => r = .returned (.tuple #[]) ∧ w = A := by
 go_enter func89, ntmps89
 go_wp2
 go_end0
 exact ⟨rfl, rfl⟩
theorem acq (w : World) (e : Int) : Calls prog 89 #[.bool false, .int .i64 e] w fun r A => r = .panicked [{ v := .iface 41 (.int .i64 e), recovered := false }] ∧ w = A := by
 go_enter func89, ntmps89
 go_wp2
 exact ⟨rfl, rfl, rfl⟩
theorem aan {B : Nat} {w A : World} (h : Below B w A) : Below B w A.drew := ⟨h.os, h.tape, h.output, h.size, h.block⟩
theorem StWf.insQ {nx : Int} {qv bv D r : Value} {qs : List QuT} {zk : List BrT} {hs : List He} (h : StWf (StT.mk nx qv bv D qs zk hs)) (i : Nat) {n : ByteArray} {l : Int} (G : 0 ≤ l ∧ l < 18446744073709551616) : StWf (StT.mk nx r bv D (abj qs i ⟨n, l, .slice none 0 0, []⟩) zk hs) := by
 refine ⟨h.n, fun q A => ?_, fun q A m F => ?_, h.bx, h.pi, h.ti, h.hx⟩
 ·rcases ack.1 A with rfl | A
  ·exact G
  ·exact h.ql q A
 ·rcases ack.1 A with rfl | A
  ·cases F
  ·exact h.mi q A m F
theorem az7 {qs : List QuT} (h : qs.Pairwise (fun a b => ∀ i, a.mv.ownBlock = some i → b.mv.ownBlock ≠ some i)) (i : Nat) {x : QuT} (H : x.mv = .slice none 0 0) : (abj qs i x).Pairwise (fun a b => ∀ i, a.mv.ownBlock = some i → b.mv.ownBlock ≠ some i) := by
 unfold abj
 have D : ∀ k, x.mv.ownBlock ≠ some k := fun k e => by rw [H] at e; simp [Value.ownBlock] at e
 rw [← List.take_append_drop i qs] at h
 obtain ⟨I, F, G⟩ := List.pairwise_append.1 h
 refine List.pairwise_append.2 ⟨I, List.pairwise_cons.2 ⟨fun b _ k e => jp e (D k), F⟩, fun p J q A k e => ?_⟩
 rcases List.mem_cons.1 A with rfl | A
 ·exact D k
 ·exact G p J q A k e
theorem alt {P : Prop} (h : P := by
 refine hKq.out _ _ hb (fun zg => ?_)
 clear hKq Kq
 (try simp only [Act.put, lsT, lsZ, lsS])
 refine aai 13 rfl (fun Kq hKq => ?_)
 have X2 : Blk (w2.alloc (.cells #[.string en, .int .u64 ei, .slice none 0 0] 51)).drew w2.heap.size (aar ⟨en, ei, .slice none 0 0, []⟩) := (Blk.new w2 [.string en, .int .u64 ei, .slice none 0 0] 51).drew
 have M3 := M2.pure hA2
 go_simp
 (go_at_call 90; (with_reducible refine (arv _ (.slice qa qs.length qc) i qs ⟨en, ei, .slice none 0 0, []⟩ w2.heap.size M3.q (by have := hA2.size; omega) hL hil X2 (fun e => by have := hql _ e; omega)).mono ?_); rintro e w5 ⟨rv, rfl, hO5, hU5, hr5⟩; obtain ⟨ra, rn, rc, rfl⟩ := hO5.shape3)
 have hb : Upd (fun k => Value.ownBlock (.slice qa qs.length qc) = some k ∨ k = m) w2 w5 := hb.trans hU5 (fun i e _ => .inl e)
 refine hKq.out _ _ hb (fun zg => ?_)
 clear hKq Kq
 (try simp only [Act.put, lsT, lsZ, lsS])
 refine tkH 14 zg ?_
 refine tkH 15 zg ?_
 refine tkH 16 zg ?_
 have A5 := A2.upd (Upd.trans (S := fun k => Value.ownBlock (.slice qa qs.length qc) = some k) (Upd.of_below hA2) hU5 (fun i e _ => e)) hqm; have a1 := A5.at 1 rfl; have af := A5.frozen 1; clear A5
 refine aai 17 rfl (fun Kq hKq => ?_)
 go_simp
 have hb : Upd (fun k => Value.ownBlock (.slice qa qs.length qc) = some k ∨ k = m) w2 (w5.setCell ⟨m, 1, none⟩ (.slice ra rn rc)) := hb.trans (Upd.set (S := fun k => k = m) rfl _) (fun i e _ => .inr e)
 refine hKq.out _ _ hb (fun zg => ?_)
 clear hKq Kq
 (try simp only [Act.put, lsT, lsZ, lsS])
 refine wpAnyH_done (by kernel_rfl) ?_ _
 go_wp2
 go_end0
 refine ⟨rfl, ⟨ra, rn, rc, MkS.setQ M3 (r := .slice ra rn rc) hO5 hU5 hr5 (fun q hq => ?_) (az7 M3.md i rfl) (M3.wf.insQ i hn)⟩, (Upd.of_below hB2).trans hb (fun k e _ => ?_)⟩
 ·rcases ack.1 hq with rfl | hq
  ·exact .inr ⟨rfl, rfl⟩
  ·exact .inl hq
 ·rcases e with e | e
  ·exact hMh.out.q.ge e
  ·rw [e]; exact hMh.out.mB) : P := h
theorem ago {P : Prop} (h : P := by
 go_wp2_with (go_at_call 89; (with_reducible refine (acq _ _).mono ?_); rintro e w3 ⟨rfl, rfl⟩)
 exact ⟨rfl, rfl, hB2⟩) : P := h
theorem arw (w : World) (B m : Nat) (ex : Value) (nx : Int) (qa : Option Addr) (qc : Nat) (z : Option Addr) (X : Nat) (Y : Option Addr) (Z : Nat) (qs : List QuT) (zk : List BrT) (hs : List He) (K : Int) (en : ByteArray) (ei : Int) (H : Int) (G U : ByteArray) (M : Option Addr) (F J : Nat) (I : Option Addr) (O N : Nat) (hM : MkS B m ex w (StT.mk nx (.slice qa qs.length qc) (.slice z zk.length X) (.slice Y hs.length Z) qs zk hs)) (ah : B ≤ w.heap.size) (hr : RisK abf QuT.name qs) (hL : qs.length ≤ 1000000) (hn : 0 ≤ ei ∧ ei < 18446744073709551616) :
 Calls prog 30 #[.pointer (some ⟨m, 0, none⟩), .agg #[.int .u8 K, .string en, .int .u64 ei, .int .u32 H, .string G, .string U, .slice M F J, .slice I O N]] w fun r w' => if acv abf QuT.name qs en = true then r = .panicked [{ v := .iface 41 (.int .i64 8), recovered := false }] ∧ Below w.heap.size w w' else r = .returned (.tuple #[]) ∧ (∃ ra rn rc, MkS B m ex w' (StT.mk nx (.slice ra rn rc) (.slice z zk.length X) (.slice Y hs.length Z) (abj qs (lbK abf QuT.name qs en) ⟨en, ei, .slice none 0 0, []⟩) zk hs)) ∧ Upd (fun i => B ≤ i) w w' := by
 have W := (qz w.heap.size w).alloc (qj _) (.cells #[.int .u8 K, .string en, .int .u64 ei, .int .u32 H, .string G, .string U, .slice M F J, .slice I O N] 34)
 have E0 := Blk.new w [.int .u8 K, .string en, .int .u64 ei, .int .u32 H, .string G, .string U, .slice M F J, .slice I O N] 34
 have A := hM.pure W
 have aj : m < w.heap.size := hM.a.blk.lt
 have A0 : Blk _ m [.int .u64 nx, .slice qa qs.length qc, .slice z zk.length X, .slice Y hs.length Z] := A.a.blk
 have ab := fun (v : World) (h : Below (w.alloc (.cells #[.int .u8 K, .string en, .int .u64 ei, .int .u32 H, .string G, .string U, .slice M F J, .slice I O N] 34)).heap.size (w.alloc (.cells #[.int .u8 K, .string en, .int .u64 ei, .int .u32 H, .string G, .string U, .slice M F J, .slice I O N] 34)) v) => atQ v nx qa qs.length qc z zk.length X Y hs.length Z qs en ((A.q.slc aaf).pure h) (fun _ => True) (fun q hq => ⟨((A.mm q hq).slc aac).pure h, fun _ _ _ => trivial, fun x hx => ((A.ra q hq x hx).pure h).weaken (fun _ _ _ => trivial), A.wf.mi q hq⟩) hr hL
 obtain ⟨i, hi⟩ := qx (lbK abf QuT.name qs en)
 have hil : i ≤ qs.length := by rw [← hi]; exact aza _ _ _ _
 obtain ⟨b, ae⟩ := qx (acv abf QuT.name qs en)
 simp only [hi, ae] at ab ⊢
 have ac := qq ab
 clear ab hi ae hr
 go_enter func30, ntmps30
 go_upto_region 1 with fail
 obtain ⟨u, hu⟩ := zj (w.alloc (.cells #[.int .u8 K, .string en, .int .u64 ei, .int .u32 H, .string G, .string U, .slice M F J, .slice I O N] 34))
 rw [← hu] at W E0 A A0 ac ⊢
 have ak : w.heap.size < u.heap.size := by rw [hu]; simp
 clear hu
 have hb := aan (qz u.heap.size u)
 refine wp_region_held_drew (S := fun v => Below u.heap.size u v) (by kernel_rfl) hb (fun zg => ?_)
 refine tkH 0 zg ?_
 refine tkH 1 zg ?_
 refine tkH 2 zg ?_
 refine tkF 3 zg ?_ (fun v D => (A0.pure D).a4)
 refine tkH 4 zg ?_
 refine tkF 5 zg ?_ (fun v D => (E0.pure D).at 1 rfl)
 refine aai 6 rfl (fun Kq hKq => ?_)
 go_simp
 (go_at_call 88; (with_reducible refine (ac.out _ hb).mono ?_); rintro e w2 ⟨rfl, hB2⟩)
 have hb : Below u.heap.size u w2 := hb.trans (hB2.mono hb.size)
 refine hKq.out _ _ hb (fun zg => ?_)
 clear hKq Kq
 (try simp only [Act.put, lsT, lsZ, lsS])
 refine tkH 7 zg ?_
 refine tkH 8 zg ?_
 refine tkH 9 zg ?_
 refine tkH 10 zg ?_
 refine tkH 11 zg ?_
 refine wpAnyH_done (by kernel_rfl) ?_ _
 have hB2 := W.trans (hb.mono W.size)
 have aa := hb
 cases b
 rotate_left 1
 ·exact ago
 go_upto_region 3 with (go_at_call 89; (with_reducible refine (ab9 _ _).mono ?_); rintro e w3 ⟨rfl, rfl⟩)
 have E2 := E0.pure aa; have M2 := A.pure aa
 clear hb zg aa A W
 have A2 : Blk w2 m [.int .u64 nx, .slice qa qs.length qc, .slice z zk.length X, .slice Y hs.length Z] := M2.a.blk
 have hqm : Value.ownBlock (.slice qa qs.length qc) ≠ some m := abm M2.q M2.a (by decide)
 have hql : ∀ k, Value.ownBlock (.slice qa qs.length qc) = some k → k < w.heap.size := fun k e => hM.q.lt e
 have ad : ¬ ((fun k => Value.ownBlock (.slice qa qs.length qc) = some k ∨ k = m) w.heap.size) := fun e => by
  rcases e with e | e
  ·have := hql _ e; omega
  ·omega
 have ai : w.heap.size < w2.heap.size := E2.lt
 have hMh := qq hM
 have a1 := A2.at 1 rfl
 have hb := (Upd.refl (fun k => Value.ownBlock (.slice qa qs.length qc) = some k ∨ k = m) w2).drew
 refine wp_region_held_drew (S := fun v => Upd (fun k => Value.ownBlock (.slice qa qs.length qc) = some k ∨ k = m) w2 v) (by kernel_rfl) hb (fun zg => ?_)
 refine tkH 0 zg ?_
 refine tkH 1 zg ?_
 refine tkH 2 zg ?_
 refine tkH 3 zg ?_
 refine tkH 4 zg ?_
 refine tkH 6 zg ?_
 refine tkH 7 zg ?_
 refine tkF 8 zg ?_ (fun v D => (E2.upd D ad).at 1 rfl)
 refine tkH 9 zg ?_
 refine tkF 10 zg ?_ (fun v D => (E2.upd D ad).at 2 rfl)
 refine tkH 11 zg ?_
 refine wpAnyH_ready (rs := [5, 12]) (by kernel_rfl) (by simp) ?_
 refine AllReadyH.cons rfl (fun Kq hKq => ?_) (AllReadyH.cons rfl (fun Kq hKq => ?_) AllReadyH.nil)
 ·go_simp
  refine hKq.out _ _ hb (fun zg => ?_); clear hKq Kq; (try simp only [Act.put, lsT, lsZ, lsS]); refine aai 12 rfl (fun Kq hKq => ?_); go_simp; have hA2 := aan ((qz w2.heap.size w2).alloc (qj _) (.cells #[.string en, .int .u64 ei, .slice none 0 0] 51)); have ag := (A2.alloc (.cells #[.string en, .int .u64 ei, .slice none 0 0] 51)).at 1 rfl; have hb : Upd (fun k => Value.ownBlock (.slice qa qs.length qc) = some k ∨ k = m) w2 _ := Upd.of_below hA2; exact alt
 ·go_simp
  have hA2 := aan ((qz w2.heap.size w2).alloc (qj _) (.cells #[.string en, .int .u64 ei, .slice none 0 0] 51)); have ag := (A2.alloc (.cells #[.string en, .int .u64 ei, .slice none 0 0] 51)).at 1 rfl; have hb : Upd (fun k => Value.ownBlock (.slice qa qs.length qc) = some k ∨ k = m) w2 _ := Upd.of_below hA2; refine hKq.out _ _ hb (fun zg => ?_); clear hKq Kq; (try simp only [Act.put, lsT, lsZ, lsS]); refine aai 5 rfl (fun Kq hKq => ?_); go_simp; exact alt
theorem aqq (a b : ByteArray) : (a.toList == b.toList) = decide (a = b) := by rw [Bool.eq_iff_iff, aid, qm]
theorem aus (t : PtT) (en : ByteArray) (A : Nat) (P : Nat → Prop) (w : World) (z : w.cell? ⟨A, 1, none⟩ = some (.string en)) (X : A < w.heap.size) (D : Rd P w t.pr.app) :
 Calls prog 92 #[t.arg, .pointer (some ⟨A, 0, none⟩)] w fun e Y => e = .returned (.bool (decide (t.q = en))) ∧ Below w.heap.size w Y := by
 obtain ⟨q, id, ⟨key, J, red, mid, Z⟩, F⟩ := t
 have D : Rd _ _ Z := D
 obtain ⟨W, O, us, H, N, G, M, I, U, rfl, -⟩ := D.open
 rw [PtT.arg_mk]
 have K := (qz w.heap.size w).alloc (qj _) (.cells #[.string q, .int .u64 id, .string key, .bool J, .bool red, .string mid, .int .u8 W, .int .u64 O, .string us, .slice H I.length N, .slice G U.length M, .string F] 64)
 have h := Blk.new w [.string q, .int .u64 id, .string key, .bool J, .bool red, .string mid, .int .u8 W, .int .u64 O, .string us, .slice H I.length N, .slice G U.length M, .string F] 64
 have e1 := (K.cell (p := ⟨A, 1, none⟩) X).trans z
 have a0 := h.at 0 rfl
 go_enter func92, ntmps92
 go_wp2
 go_ret
 exact ⟨congrArg (fun b => Ending.returned (.bool b)) (aqq q en), K⟩
theorem aut (x : Rf) (en : ByteArray) (A : Nat) (w : World) (H : w.cell? ⟨A, 1, none⟩ = some (.string en)) (F : A < w.heap.size) :
 Calls prog 94 #[.agg #[.string x.q, .int .u64 x.id], .pointer (some ⟨A, 0, none⟩)] w fun e G => e = .returned (.bool (decide (x.q = en))) ∧ Below w.heap.size w G := by
 have D := (qz w.heap.size w).alloc (qj _) (.cells #[.string x.q, .int .u64 x.id] 68)
 have I := Blk.new w [.string x.q, .int .u64 x.id] 68
 have K := (D.cell (p := ⟨A, 1, none⟩) F).trans H
 have J := I.at 0 rfl
 go_enter func94, ntmps94
 go_wp2
 go_ret
 exact ⟨congrArg (fun b => Ending.returned (.bool b)) (aqq x.q en), D⟩
theorem ah7 {L : List PtT} {p : PtT → Bool} (k : Nat) (h1 : ∀ j, (h : j < L.length) → j < k → p L[j] = false) (h2 : (h : k < L.length) → p L[k] = true) : L.any p = decide (k < L.length) := by
 exact adu
theorem axl (w : World) (N : Option Addr) (K : Nat) (L : List PtT) (P : Nat → Prop) (p : PtT → Bool) (O : Nat) (z : Slc aat 12 w (.slice N L.length K) L) (ai : (L.length : Int) ≤ 9223372036854775807) (W : Hid (∀ x ∈ L, Rd P w x.pr.app)) (U : Hid (∀ x ∈ L, ∀ u : World, Below w.heap.size w u → Calls prog 92 #[x.arg, .pointer (some ⟨O, 0, none⟩)] u fun e u' => e = .returned (.bool (p x)) ∧ Below u.heap.size u u')) :
 Calls prog 141 #[.slice N L.length K, .func (.func 92) #[] #[.pointer (some ⟨O, 0, none⟩)]] w fun e Y => (∃ r : Int, e = .returned (.int .i64 r) ∧ decide (0 ≤ r) = L.any p) ∧ Below w.heap.size w Y := by
 go_enter func141, ntmps141
 go_wp2
 go_loopw [8] (fun H wr => ∃ k : Nat, k ≤ L.length ∧ H = .int .i64 k ∧ Hid (∀ j, (h : j < L.length) → j < k → p L[j] = false) ∧ Below w.heap.size w wr) (fun H _ => L.length - (intOf H).toNat)
 case atStart => exact ⟨0, by omega, rfl, qq (fun j h h0 => jp h0 (by omega)), qz _ _⟩
 case round =>
  obtain ⟨k, hk, rfl, hno, A⟩ := hrel; by_cases D : k < L.length
  ·have J := z.pure A
   obtain ⟨g, off, rfl⟩ := J.addrB D; have X := (W.out L[k] (qy D)).pure A; obtain ⟨q, id, key, ah, red, mid, uk, un, us, ad, ae, af, ac, ab, ul, aa, M, q0, q1, q2, q3, q4, q5, q6, q7, q8, q9, aj, ag⟩ := ad5 J D X; have hi := U.out L[k] (qy D) wr A; obtain ⟨b, G⟩ := qx (p L[k]); rw [G, M, PtT.arg_mk] at hi; have I := qq hi; have hbh := qq G; clear hi G M; have h1 : (k : Int) < (L.length : Int) := by omega
   cases b
   ·go_wp2_with (go_at_call 92; (with_reducible refine I.out.mono ?_); rintro e Z ⟨rfl, F⟩; have hB2 := A.trans (F.mono A.size))
    exact ac8
   ·go_wp2_with (go_at_call 92; (with_reducible refine I.out.mono ?_); rintro e Z ⟨rfl, F⟩; have hB2 := A.trans (F.mono A.size))
    go_ret; exact ⟨⟨k, rfl, by rw [ah7 k hno.out (fun _ => hbh.out), qp D]; simp⟩, hB2⟩
  ·obtain rfl : k = L.length := by omega
   go_wp2; go_ret; exact ⟨⟨-1, rfl, by rw [ah7 L.length hno.out (fun h => jp h D), qg D]; decide⟩, A⟩
theorem axm (w : World) (D : Option Addr) (A : Nat) (L : List PtT) (P : Nat → Prop) (p : PtT → Bool) (F : Nat) (N : Slc aat 12 w (.slice D L.length A) L) (I : (L.length : Int) ≤ 9223372036854775807) (H : Hid (∀ x ∈ L, Rd P w x.pr.app)) (G : Hid (∀ x ∈ L, ∀ u : World, Below w.heap.size w u → Calls prog 92 #[x.arg, .pointer (some ⟨F, 0, none⟩)] u fun e O => e = .returned (.bool (p x)) ∧ Below u.heap.size u O)) :
 Calls prog 91 #[.slice D L.length A, .func (.func 92) #[] #[.pointer (some ⟨F, 0, none⟩)]] w fun e K => e = .returned (.bool (L.any p)) ∧ Below w.heap.size w K := by
 go_enter func91, ntmps91
 go_wp2_with (go_at_call 141; (with_reducible refine (axl w D A L P p F N I H G).mono ?_); rintro e U ⟨⟨r, rfl, M⟩, J⟩)
 go_ret
 exact ⟨by rw [← M]; rfl, J⟩
theorem ah8 {L : List Rf} {p : Rf → Bool} (k : Nat) (h1 : ∀ j, (h : j < L.length) → j < k → p L[j] = false) (h2 : (h : k < L.length) → p L[k] = true) : L.any p = decide (k < L.length) := by
 exact adu
theorem axn (w : World) (N : Option Addr) (K : Nat) (L : List Rf) (p : Rf → Bool) (O : Nat) (Y : Slc abc 2 w (.slice N L.length K) L) (z : (L.length : Int) ≤ 9223372036854775807) (U : Hid (∀ x ∈ L, ∀ u : World, Below w.heap.size w u → Calls prog 94 #[.agg #[.string x.q, .int .u64 x.id], .pointer (some ⟨O, 0, none⟩)] u fun e Z => e = .returned (.bool (p x)) ∧ Below u.heap.size u Z)) :
 Calls prog 142 #[.slice N L.length K, .func (.func 94) #[] #[.pointer (some ⟨O, 0, none⟩)]] w fun e W => (∃ r : Int, e = .returned (.int .i64 r) ∧ decide (0 ≤ r) = L.any p) ∧ Below w.heap.size w W := by
 go_enter func142, ntmps142
 go_wp2
 go_loopw [8] (fun G wr => ∃ k : Nat, k ≤ L.length ∧ G = .int .i64 k ∧ Hid (∀ j, (h : j < L.length) → j < k → p L[j] = false) ∧ Below w.heap.size w wr) (fun G _ => L.length - (intOf G).toNat)
 case atStart => exact ⟨0, by omega, rfl, qq (fun j h h0 => jp h0 (by omega)), qz _ _⟩
 case round =>
  obtain ⟨k, hk, rfl, hno, A⟩ := hrel; by_cases D : k < L.length
  ·have J := Y.pure A
   obtain ⟨g, off, rfl⟩ := J.addrB D; obtain ⟨xq, xi, M, q0, q1⟩ := ado J D; have hi := U.out L[k] (qy D) wr A; obtain ⟨b, H⟩ := qx (p L[k]); rw [H, M] at hi; have I := qq hi; have hbh := qq H; clear hi H M; have h1 : (k : Int) < (L.length : Int) := by omega
   cases b
   ·go_wp2_with (go_at_call 94; (with_reducible refine I.out.mono ?_); rintro e X ⟨rfl, F⟩; have hB2 := A.trans (F.mono A.size))
    exact ac8
   ·go_wp2_with (go_at_call 94; (with_reducible refine I.out.mono ?_); rintro e X ⟨rfl, F⟩; have hB2 := A.trans (F.mono A.size))
    go_ret; exact ⟨⟨k, rfl, by rw [ah8 k hno.out (fun _ => hbh.out), qp D]; simp⟩, hB2⟩
  ·obtain rfl : k = L.length := by omega
   go_wp2; go_ret; exact ⟨⟨-1, rfl, by rw [ah8 L.length hno.out (fun h => jp h D), qg D]; decide⟩, A⟩
theorem axo (w : World) (D : Option Addr) (A : Nat) (L : List Rf) (p : Rf → Bool) (F : Nat) (M : Slc abc 2 w (.slice D L.length A) L) (H : (L.length : Int) ≤ 9223372036854775807) (G : Hid (∀ x ∈ L, ∀ u : World, Below w.heap.size w u → Calls prog 94 #[.agg #[.string x.q, .int .u64 x.id], .pointer (some ⟨F, 0, none⟩)] u fun e N => e = .returned (.bool (p x)) ∧ Below u.heap.size u N)) :
 Calls prog 93 #[.slice D L.length A, .func (.func 94) #[] #[.pointer (some ⟨F, 0, none⟩)]] w fun e J => e = .returned (.bool (L.any p)) ∧ Below w.heap.size w J := by
 go_enter func93, ntmps93
 go_wp2_with (go_at_call 142; (with_reducible refine (axn w D A L p F M H G).mono ?_); rintro e O ⟨⟨r, rfl, K⟩, I⟩)
 go_ret
 exact ⟨by rw [← K]; rfl, I⟩
def anz (en : ByteArray) (b : BrT) : Bool := b.zu.any (fun p => decide (p.q = en)) || b.zy.any (fun r => decide (r.q = en))
theorem auu (w : World) (B m : Nat) (ex : Value) (nx : Int) (qa : Option Addr) (qc : Nat) (ba : Option Addr) (W : Nat) (Y : Option Addr) (hc : Nat) (qs : List QuT) (zk : List BrT) (hs : List He) (z : Int) (en : ByteArray) (ei : Int) (X : Int) (xg xb : ByteArray) (pa : Option Addr) (pn pc : Nat) (Z : Option Addr) (tn tc : Nat) (hM : MkS B m ex w (StT.mk nx (.slice qa qs.length qc) (.slice ba zk.length W) (.slice Y hs.length hc) qs zk hs)) (ce : B ≤ w.heap.size) (hr : RisK abf QuT.name qs) (hL : qs.length ≤ 1000000) (cc : zk.length ≤ 1000000) :
 Calls prog 31 #[.pointer (some ⟨m, 0, none⟩), .agg #[.int .u8 z, .string en, .int .u64 ei, .int .u32 X, .string xg, .string xb, .slice pa pn pc, .slice Z tn tc]] w fun r w' => if acv abf QuT.name qs en = true then (if zk.any (anz en) = true then r = .panicked [{ v := .iface 41 (.int .i64 9), recovered := false }] ∧ Below w.heap.size w w' else r = .returned (.tuple #[]) ∧ (∃ ra rn rc, MkS B m ex w' (StT.mk nx (.slice ra rn rc) (.slice ba zk.length W) (.slice Y hs.length hc) (qs.eraseIdx (lbK abf QuT.name qs en)) zk hs)) ∧ Upd (fun i => B ≤ i) w w') else r = .panicked [{ v := .iface 41 (.int .i64 7), recovered := false }] ∧ Below w.heap.size w w' := by
 have aa := (qz w.heap.size w).alloc (qj _) (.cells #[.int .u8 z, .string en, .int .u64 ei, .int .u32 X, .string xg, .string xb, .slice pa pn pc, .slice Z tn tc] 34)
 have E0 := Blk.new w [.int .u8 z, .string en, .int .u64 ei, .int .u32 X, .string xg, .string xb, .slice pa pn pc, .slice Z tn tc] 34
 have I := hM.pure aa
 have cg : m < w.heap.size := hM.a.blk.lt
 have A0 : Blk _ m [.int .u64 nx, .slice qa qs.length qc, .slice ba zk.length W, .slice Y hs.length hc] := I.a.blk
 have au := fun (v : World) (h : Below (w.alloc (.cells #[.int .u8 z, .string en, .int .u64 ei, .int .u32 X, .string xg, .string xb, .slice pa pn pc, .slice Z tn tc] 34)).heap.size (w.alloc (.cells #[.int .u8 z, .string en, .int .u64 ei, .int .u32 X, .string xg, .string xb, .slice pa pn pc, .slice Z tn tc] 34)) v) => atQ v nx qa qs.length qc ba zk.length W Y hs.length hc qs en ((I.q.slc aaf).pure h) (fun _ => True) (fun q G => ⟨((I.mm q G).slc aac).pure h, fun _ _ _ => trivial, fun x hx => ((I.ra q G x hx).pure h).weaken (fun _ _ _ => trivial), I.wf.mi q G⟩) hr hL
 obtain ⟨i, hi⟩ := qx (lbK abf QuT.name qs en)
 obtain ⟨b, ag⟩ := qx (acv abf QuT.name qs en)
 obtain ⟨ub, an⟩ := qx (zk.any (anz en))
 have b8 : i ≤ qs.length := by rw [← hi]; exact aza _ _ _ _
 have b0 := qq (show b = true → i < qs.length from fun h => by rw [← hi]; exact (aec cmpB_ok hr (ag.trans h)).1)
 rw [hi, ag, an]
 simp only [hi, ag] at au
 have az := qq au; have a0 := qq an
 clear au hi ag hr an
 go_enter func31, ntmps31
 go_upto_region 1 with fail
 obtain ⟨u, hu⟩ := zj (w.alloc (.cells #[.int .u8 z, .string en, .int .u64 ei, .int .u32 X, .string xg, .string xb, .slice pa pn pc, .slice Z tn tc] 34))
 rw [← hu] at aa E0 I A0 az ⊢
 have cd : w.heap.size < u.heap.size := by rw [hu]; simp
 clear hu
 have H := aan (qz u.heap.size u)
 refine wp_region_held_drew (S := fun v => Below u.heap.size u v) (by kernel_rfl) H (fun D => ?_)
 refine tkH 0 D ?_
 refine tkH 1 D ?_
 refine tkH 2 D ?_
 refine tkF 3 D ?_ (fun v ax => (A0.pure ax).a4)
 refine tkH 4 D ?_
 refine tkF 5 D ?_ (fun v ax => (E0.pure ax).at 1 rfl)
 refine aai 6 rfl (fun Kq bl => ?_)
 go_simp
 (go_at_call 88; (with_reducible refine (az.out _ H).mono ?_); rintro e w2 ⟨rfl, hB2⟩)
 have H : Below u.heap.size u w2 := H.trans (hB2.mono H.size)
 refine bl.out _ _ H (fun D => ?_)
 clear bl Kq
 (try simp only [Act.put, lsT, lsZ, lsS])
 refine tkH 7 D ?_
 refine tkH 8 D ?_
 refine tkH 9 D ?_
 refine tkH 10 D ?_
 refine tkH 11 D ?_
 refine wpAnyH_done (by kernel_rfl) ?_ _
 have hB2 := aa.trans (H.mono aa.size)
 have ak := H
 cases b
 ·exact ago
 have bf := b0.out rfl
 have E2 := E0.pure ak; have M2 := I.pure ak
 clear H D ak I aa
 have A2 : Blk w2 m [.int .u64 nx, .slice qa qs.length qc, .slice ba zk.length W, .slice Y hs.length hc] := M2.a.blk
 have bn := qq hM
 have b6 := qq M2
 have a2 := A2.at 2 rfl
 go_upto_region 3 with (go_at_call 89; (with_reducible refine (ab9 _ _).mono ?_); rintro e w3 ⟨rfl, rfl⟩)
 go_wp2
 clear a2
 have ca : (zk.length : Int) ≤ 1000000 := by omega
 go_loopw [7, 26] (fun s7 am wr => ∃ k : Nat, k ≤ zk.length ∧ am = .int .i64 k ∧ Hid (∀ j, (h : j < zk.length) → j < k → anz en zk[j] = false) ∧ Below w2.heap.size w2 wr) (fun s7 am _ => zk.length - (intOf am).toNat)
 case atStart => exact ⟨0, Nat.zero_le _, rfl, qq (fun j h h' => jp h' (by omega)), qz _ _⟩
 case round =>
  obtain ⟨k, hk, rfl, bd, hB⟩ := hrel; have A := M2.pure hB; by_cases ah : k < zk.length
  ·have b7 : (k : Int) < (zk.length : Int) := by omega
   obtain ⟨g, rfl, hg⟩ := abr A.b ah; have O := A.rd.e zk[k] (qy ah); obtain ⟨yf, yg, yb, ad, ae, ab, ac, J, N, hx, b4, b1, c0, c1, c2, c3, c4⟩ := adq (A.b.slc aag) ah O; simp only [Nat.zero_add] at c0 c1 c2 c3 c4; rw [hx] at O; have bj : Slc aat 12 wr (.slice ad J.length ae) J := O.p; have bk : Slc abc 2 wr (.slice ab N.length ac) N := O.s; have bm : ∀ p ∈ J, Rd _ wr p.pr.app := O.r
   obtain ⟨u1, aw⟩ := qx (J.any (fun p => decide (p.q = en))); obtain ⟨u2, aq⟩ := qx (N.any (fun r => decide (r.q = en))); have bi := qq (show anz en zk[k] = (u1 || u2) by rw [hx, ← aw, ← aq]; rfl); have bg := qq (fun (h : (u1 || u2) = true) => show ub = true by rw [← a0.out, List.any_eq_true]; exact ⟨zk[k], qy ah, bi.out.trans h⟩); have cb := qq hx; have bq := qq bj; have br := qq bk; have bb := qq bm; have bt := qq aw; have bu := qq aq; have E3 := E2.pure hB; clear hx bj bk bm aw aq O; go_upto_region 6 with fail; have M := (qz wr.heap.size wr).alloc (qj _) (.cells #[.int .u32 yf, .string yg, .string yb, .slice ad J.length ae, .slice ab N.length ac] 62); have N0 := Blk.new wr [.int .u32 yf, .string yg, .string yb, .slice ad J.length ae, .slice ab N.length ac] 62; generalize wr.heap.size = nb at N0 ⊢; generalize wr.alloc (.cells #[.int .u32 yf, .string yg, .string yb, .slice ad J.length ae, .slice ab N.length ac] 62) = x at N0 M ⊢; clear c0 c1 c2 c3 c4; have EX := E3.pure M; have av := hB.trans (M.mono hB.size); have U := hB2.trans (av.mono hB2.size); have al := axm x ad ae J _ (fun p => decide (p.q = en)) w.heap.size (bq.out.pure M) (by have := b4; unfold maxLen at this; omega) (qq (fun p hp => (bb.out p hp).pure M)) (qq (fun p hp v hv => aus p en w.heap.size _ v ((EX.pure hv).at 1 rfl) (jg EX.lt hv.size) (((bb.out p hp).pure M).pure hv))); rw [bt.out] at al; have ao := fun (bo : World) (hz : Below x.heap.size x bo) => axo bo ab ac N (fun r => decide (r.q = en)) w.heap.size ((br.out.pure M).pure hz) (by have := b1; unfold maxLen at this; omega) (qq (fun p hp v hv => aut p en w.heap.size v (((EX.pure hz).pure hv).at 1 rfl) (jg (EX.pure hz).lt hv.size)))
   rw [bu.out] at ao; have aj := qq al; have ay := qq ao; clear al ao; have n3 := N0.at 3 rfl; cases u1
   rotate_left 1
   ·obtain rfl : ub = true := bg.out rfl
    go_wp2_with (first | (go_at_call 91; (with_reducible refine aj.out.mono ?_); rintro e w4 ⟨rfl, F⟩; have K := U.trans (F.mono U.size); have N4 := N0.pure F; have n4 := N4.at 4 rfl) | (go_at_call 89; (with_reducible refine (acq _ _).mono ?_); rintro e w3 ⟨rfl, rfl⟩)); exact ⟨rfl, rfl, K⟩
   cases u2
   rotate_left 1
   ·obtain rfl : ub = true := bg.out rfl
    go_wp2_with (first | (go_at_call 91; (with_reducible refine aj.out.mono ?_); rintro e w4 ⟨rfl, F⟩; have K := U.trans (F.mono U.size); have N4 := N0.pure F; have n4 := N4.at 4 rfl) | (go_at_call 93; (with_reducible refine (ay.out _ F).mono ?_); rintro e w5 ⟨rfl, ai⟩; have bh := K.trans (ai.mono K.size)) | (go_at_call 89; (with_reducible refine (acq _ _).mono ?_); rintro e w3 ⟨rfl, rfl⟩) | (go_at_call 89; (with_reducible refine (ab9 _ _).mono ?_); rintro e w3 ⟨rfl, rfl⟩)); exact ⟨rfl, rfl, bh⟩
   have bp := qq (show ∀ j, (h : j < zk.length) → j < k + 1 → anz en zk[j] = false from fun j h hj => by
    rcases Nat.lt_or_ge j k with q | q
    ·exact bd.out j h q
    ·obtain rfl : j = k := by omega
     rw [bi.out]; rfl)
   go_wp2_with (first | (go_at_call 91; (with_reducible refine aj.out.mono ?_); rintro e w4 ⟨rfl, F⟩; have K := U.trans (F.mono U.size); have N4 := N0.pure F; have n4 := N4.at 4 rfl) | (go_at_call 93; (with_reducible refine (ay.out _ F).mono ?_); rintro e w5 ⟨rfl, ai⟩; have bh := K.trans (ai.mono K.size)) | (go_at_call 89; (with_reducible refine (acq _ _).mono ?_); rintro e w3 ⟨rfl, rfl⟩) | (go_at_call 89; (with_reducible refine (ab9 _ _).mono ?_); rintro e w3 ⟨rfl, rfl⟩)); go_roundw
   case rel => exact ⟨k + 1, by omega, by go_num, bp, av.trans ((F.trans (ai.mono F.size)).mono av.size)⟩
   case measure => simp [intOf]; omega
  ·obtain rfl : k = zk.length := by omega
   obtain rfl : ub = false := by
    rw [← a0.out, List.any_eq_false]; intro y hy; obtain ⟨j, hj, rfl⟩ := List.getElem_of_mem hy; rw [bd.out j hj hj]; simp
   have A3 : Blk wr m [.int .u64 nx, .slice qa qs.length qc, .slice ba zk.length W, .slice Y hs.length hc] := A.a.blk; obtain ⟨g, rfl, hg⟩ := abr A.q bf; have b9 : (0 : Int) ≤ (i : Int) := by omega
   have cf : (i : Int) + 1 ≤ 1000001 := by omega
   have b3 : g ≠ m := fun e => abm A.q A.a (by decide) (by rw [← e]; rfl)
   have b5 := hB2.trans (hB.mono hB2.size); have a1 := A3.at 1 rfl; go_wp2_with (go_at_call 95; (with_reducible refine (aku wr g qc i qs A.q bf hL).mono ?_); rintro e w5 ⟨rfl, b2, ar⟩; have A5 := A3.upd ar (fun e => b3 e.symm); have a1 := A5.at 1 rfl; have af := A5.frozen 1); go_end0; have bw : Upd (fun k => Value.ownBlock (.slice (some ⟨g, 0, none⟩) qs.length qc) = some k) wr w5 := ar.mono (fun k e _ => by have e : k = g := e; rw [e]; rfl); refine ⟨rfl, ⟨some ⟨g, 0, none⟩, qs.length - 1, qc, MkS.setQ A (r := .slice (some ⟨g, 0, none⟩) (qs.length - 1) qc) b2 bw (fun k e => .inl e) (fun q G => .inl ((List.eraseIdx_sublist qs i).subset G)) (A.md.sublist (List.eraseIdx_sublist qs i)) ⟨A.wf.n, fun q G => A.wf.ql q ((List.eraseIdx_sublist qs i).subset G), fun q G => A.wf.mi q ((List.eraseIdx_sublist qs i).subset G), A.wf.bx, A.wf.pi, A.wf.ti, A.wf.hx⟩⟩, ((Upd.of_below b5).trans ar (fun k e _ => ?_)).trans (Upd.set (S := fun k => k = m) rfl _) (fun k e _ => ?_)⟩
   ·have e : k = g := e
    rw [e]; exact bn.out.q.ge rfl
   ·have e : k = m := e
    rw [e]; exact bn.out.mB
open Go.RowKit Go.Maps Tryz
abbrev WkOw (B : Nat) (w : World) (t : WkT) : Prop := EnOw B w t.en
theorem EnOw.work {B : Nat} {w : World} {t : EnT} (h : EnOw B w t) : WkOw B w ⟨t.pv, t.tv, t.zu, t.zy⟩ :=
 ⟨h.p, h.r, h.s, h.d, h.rd.work.wf⟩
theorem arx (a b : ByteArray) : (a.toList == b.toList) = (a == b) := (beq_toListBytes a b).symm
theorem bb3 (w : World) (q A : ByteArray) (i D : Int) : (binOp .eql 68 (.agg #[.string q, .int .u64 i]) (.agg #[.string A, .int .u64 D])).run prog w = .ok (.bool (acz ⟨q, i⟩ ⟨A, D⟩)) w := by
 have F : prog.fieldsOf 68 = (match prog.underlying 68 with | some (.struct fs) => fs | _ => #[]) := rfl
 rw [underlying68] at F
 simp only at F
 have e : acz ⟨q, i⟩ ⟨A, D⟩ = (q == A && i == D) := by
  unfold acz; rw [beq_toListBytes]; congr 1
 rw [e, run_eql_struct, show (10000 : Nat) = 9999 + 1 from rfl, run_equalIn_agg w 9999 _ _ _ (by rw [F]; exact underlying68) (by kernel_rfl), F]
 cases h1 : (q == A) <;> cases h2 : (i == D) <;> simp [go_sem, arx, h1, h2]
def bb4 (o : Option Nat) : Int := match o with | some i => (i : Int) | none => -1
theorem axp (l : List Rf) (r : Rf) : decide (0 ≤ bb4 (l.findIdx? (fun x => acz r x))) = decide (0 < aa8 l r) := by
 rw [Bool.eq_iff_iff, decide_eq_true_iff, decide_eq_true_iff, abq]
 cases h : l.findIdx? (fun x => acz r x) with
 | none =>
  rw [List.findIdx?_eq_none_iff] at h; exact ⟨fun F => by simp [bb4] at F, fun A => by have := h r A; rw [abt.2 rfl] at this; cases this⟩
 | some i =>
  rw [List.findIdx?_eq_some_iff_getElem] at h; obtain ⟨hi, D, _⟩ := h; exact ⟨fun _ => by rw [abt.1 D]; exact qy _, fun _ => by simp [bb4]⟩
theorem an0 (w : World) (N : Option Addr) (O : Nat) (ks : List Rf) (r : Rf) (hK : Slc abc 2 w (.slice N ks.length O) ks) (Y : (ks.length : Int) ≤ 9223372036854775807) :
 Calls prog 157 #[.slice N ks.length O, .agg #[.string r.q, .int .u64 r.id]] w fun e W => e = .returned (.int .i64 (bb4 (ks.findIdx? (fun x => acz r x)))) ∧ Below w.heap.size w W := by
 have J := (qz w.heap.size w).alloc (qj _) (.cells #[.string r.q, .int .u64 r.id] 68)
 have U := Blk.new w [.string r.q, .int .u64 r.id] 68
 go_enter func157, ntmps157
 go_wp2
 go_loopw [8] (fun I wr => ∃ (k : Nat), k ≤ ks.length ∧ I = .int .i64 k ∧ Hid ((ks.take k).findIdx? (fun x => acz r x) = none) ∧ Below w.heap.size w wr ∧ Blk wr w.heap.size [.string r.q, .int .u64 r.id]) (fun I _ => ks.length - (intOf I).toNat)
 case atStart => exact ⟨0, by omega, rfl, qq (by simp), J, U⟩
 case round =>
  obtain ⟨k, hk, rfl, G, F, B1⟩ := hrel; clear J U; by_cases A : k < ks.length
  ·have H := hK.pure F
   obtain ⟨h, X, rfl⟩ := H.addrB A; obtain ⟨q, i, K, c0, Z⟩ := ado H A; obtain ⟨b, D⟩ := qx (acz r ⟨q, i⟩); have z := fun (u : World) => (bb3 u r.q q r.id i).trans (show _ = Result.ok (.bool b) u by rw [← D])
   obtain ⟨b0, b1⟩ := B1.a2; rw [← K] at D; have M := qq D; clear K H D; cases b
   ·go_wp2
    go_region; go_wp2; go_roundw
    case rel => exact ⟨k + 1, by omega, by go_num, qq (avs A G.out M.out), aad F, B1.drew⟩
    case measure => simp [intOf]; omega
   ·go_wp2
    go_region; go_wp2; go_ret; refine ⟨?_, aad F⟩; rw [asb A G.out M.out]; rfl
  ·obtain rfl : k = ks.length := by omega
   go_wp2; go_ret; refine ⟨?_, F⟩; have := G.out; rw [js] at this; rw [this]; rfl
theorem afc (w : World) (F : Option Addr) (G : Nat) (ks : List Rf) (r : Rf) (hK : Slc abc 2 w (.slice F ks.length G) ks) (H : (ks.length : Int) ≤ 9223372036854775807) :
 Calls prog 123 #[.slice F ks.length G, .agg #[.string r.q, .int .u64 r.id]] w fun e I => e = .returned (.bool (decide (0 < aa8 ks r))) ∧ Below w.heap.size w I := by
 have D := (qz w.heap.size w).alloc (qj _) (.cells #[.string r.q, .int .u64 r.id] 68)
 have B1 := Blk.new w [.string r.q, .int .u64 r.id] 68
 have A := an0 _ F G ks r (hK.pure D) H
 rw [← axp]
 generalize bb4 (ks.findIdx? (fun x => acz r x)) = z at A ⊢
 have J := qq A
 obtain ⟨O, N⟩ := B1.a2
 clear A hK H
 go_enter func123, ntmps123
 go_wp2_with (go_at_call 157; (with_reducible refine J.out.mono ?_); rintro e I ⟨rfl, M⟩; have K := D.trans (M.mono D.size))
 go_ret
 exact ⟨rfl, K⟩
theorem EnRd.lt {P : Nat → Prop} {w : World} {t : EnT} (h : EnRd P w t) : EnRd (fun k => P k ∧ k < w.heap.size) w t :=
 ⟨h.p, fun k e n => ⟨h.pP k e n, aez aae (by omega) h.p n k e⟩, fun x A => (h.r x A).lt, h.s, fun k e n => ⟨h.sP k e n, aez aa9 (by omega) h.s n k e⟩, h.wf⟩
def xnV (o : Option Xn) : Value := match o with | some x => .agg #[.int .u32 x.1, .string x.2.1, .string x.2.2] | none => .agg #[.int .u32 0, .string ⟨#[]⟩, .string ⟨#[]⟩]
def akv (zk : List BrT) (r : Rf) : Option Xn := ao7 (zk.map BrT.b) r
theorem ary {zk : List BrT} {r : Rf} (h : ∀ j, (h : j < zk.length) → decide (0 < aa8 zk[j].zy r) = false) : akv zk r = none := by
 unfold akv ao7
 rw [List.find?_eq_none.2, Option.map_none]
 intro b F
 obtain ⟨t, D, rfl⟩ := jv.1 F
 obtain ⟨j, A, rfl⟩ := List.getElem_of_mem D
 have := h j A
 show ¬ (decide (0 < aa8 zk[j].zy r) = true)
 rw [this]; simp
theorem arz {zk : List BrT} {r : Rf} {k : Nat} (D : k < zk.length) (h : ∀ j, (h : j < zk.length) → j < k → decide (0 < aa8 zk[j].zy r) = false) (F : decide (0 < aa8 zk[k].zy r) = true) : akv zk r = some zk[k].x := by
 unfold akv ao7
 have e : (zk.map BrT.b).find? (fun b => decide (0 < aa8 b.zy r)) = some zk[k].b := by
  rw [List.find?_eq_some_iff_getElem]; refine ⟨F, k, by simpa using D, by simp, fun j A => ?_⟩; rw [zq]; have := h j (by omega) A; show (!decide (0 < aa8 zk[j].zy r)) = true
  rw [this]; rfl
 rw [e]; rfl
theorem aka (w : World) (nx : Int) (I : Option Addr) (qn qc : Nat) (F : Option Addr) (D : Nat) (M : Option Addr) (U O : Nat) (zk : List BrT) (q : ByteArray) (id : Int) (P : Nat → Prop) (hb : Slc aa7 5 w (.slice F zk.length D) zk) (he : ∀ b ∈ zk, EnRd P w b.en) (hL : zk.length ≤ 1000000) :
 Calls prog 63 #[.agg #[.int .u64 nx, .slice I qn qc, .slice F zk.length D, .slice M U O], .agg #[.string q, .int .u64 id]] w fun e w' => e = .returned (.tuple #[xnV (akv zk ⟨q, id⟩), .bool (akv zk ⟨q, id⟩).isSome]) ∧ Below w.heap.size w w' := by
 have Y := (((qz w.heap.size w).alloc (qj _) (.cells #[.int .u64 nx, .slice I qn qc, .slice F zk.length D, .slice M U O] 27)).alloc (by simp) (.cells #[.string q, .int .u64 id] 68)).alloc (by simp <;> omega) (.cells #[.int .u32 0, .string ⟨#[]⟩, .string ⟨#[]⟩] 30)
 have A1 := ((Blk.new w [.int .u64 nx, .slice I qn qc, .slice F zk.length D, .slice M U O] 27).alloc (.cells #[.string q, .int .u64 id] 68)).alloc (.cells #[.int .u32 0, .string ⟨#[]⟩, .string ⟨#[]⟩] 30)
 have R1 := (Blk.newE (w.alloc (.cells #[.int .u64 nx, .slice I qn qc, .slice F zk.length D, .slice M U O] 27)) [.string q, .int .u64 id] 68 (w.heap.size + 1) (by simp)).alloc (.cells #[.int .u32 0, .string ⟨#[]⟩, .string ⟨#[]⟩] 30)
 have X1 := Blk.newE ((w.alloc (.cells #[.int .u64 nx, .slice I qn qc, .slice F zk.length D, .slice M U O] 27)).alloc (.cells #[.string q, .int .u64 id] 68)) [.int .u32 0, .string ⟨#[]⟩, .string ⟨#[]⟩] 30 (w.heap.size + 2) (by simp)
 have ax := qq hb; have ay := qq he
 have a1 : (zk.length : Int) ≤ 1000000 := by omega
 clear hb he
 have zx := ahk
 go_enter func63, ntmps63
 go_upto_region 1 with fail
 generalize ((w.alloc (.cells #[.int .u64 nx, .slice I qn qc, .slice F zk.length D, .slice M U O] 27)).alloc (.cells #[.string q, .int .u64 id] 68)).alloc (.cells #[.int .u32 0, .string ⟨#[]⟩, .string ⟨#[]⟩] 30) = u at Y A1 R1 X1 ⊢
 have a2 := A1.at 2 rfl
 go_wp2
 clear a2
 go_loopw [7, 11] (fun s7 ak wr => ∃ k : Nat, k ≤ zk.length ∧ ak = .int .i64 k ∧ Hid (∀ j, (h : j < zk.length) → j < k → decide (0 < aa8 zk[j].zy ⟨q, id⟩) = false) ∧ Below u.heap.size u wr) (fun s7 ak _ => zk.length - (intOf ak).toNat)
 case atStart => exact ⟨0, Nat.zero_le _, rfl, qq (fun j h h' => jp h' (by omega)), qz _ _⟩
 case round =>
  obtain ⟨k, hk, rfl, ag, hB⟩ := hrel; have ai := Y.trans (hB.mono Y.size); have X2 := X1.pure hB; have R2 := R1.pure hB; by_cases ac : k < zk.length
  ·have az : (k : Int) < (zk.length : Int) := by omega
   have ah := ax.out.pure ai; obtain ⟨g, off, rfl⟩ := ah.addrB ac; have ad := (ay.out zk[k] (qy ac)).pure ai; obtain ⟨W, J, N, al, am, X, Z, zu, G, hx, a0, av, c0, c1, c2, c3, c4⟩ := adq ah ac ad; rw [hx] at ad; have aq : Slc abc 2 wr (.slice X G.length Z) G := ad.s; obtain ⟨f, hf⟩ := qx (decide (0 < aa8 G ⟨q, id⟩)); have ao := qq (show decide (0 < aa8 zk[k].zy ⟨q, id⟩) = f by rw [hx]; exact hf); have aw := qq (show zk[k].x = (W, J, N) by rw [hx]); have au := qq hf; have ar := qq aq; clear hx ad aq hf ah; go_upto_region 4 with fail; have H := (qz wr.heap.size wr).alloc (qj _) (.cells #[.int .u32 W, .string J, .string N, .slice al zu.length am, .slice X G.length Z] 62); have N0 := Blk.new wr [.int .u32 W, .string J, .string N, .slice al zu.length am, .slice X G.length Z] 62; generalize wr.heap.size = nb at N0 ⊢; generalize wr.alloc (.cells #[.int .u32 W, .string J, .string N, .slice al zu.length am, .slice X G.length Z] 62) = x at N0 H ⊢; clear c0 c1 c2 c3 c4; have af := afc x X Z G ⟨q, id⟩ (ar.out.pure H) (by have := av; unfold maxLen at this; omega); rw [au.out] at af; have an := qq af; clear af; have ab := hB.trans (H.mono hB.size); have n4 := N0.at 4 rfl; have r0 := (R2.pure H).at 0 rfl; have r1 := (R2.pure H).at 1 rfl; have X3 := X2.pure H; cases f
   ·go_wp2_with (go_at_call 123; (with_reducible refine an.out.mono ?_); rintro e w5 ⟨rfl, A⟩; have aj := ab.trans (A.mono ab.size); have N5 := N0.pure A; have K := X3.pure A; obtain ⟨n0, n1, n2⟩ := N5.a3; obtain ⟨f0, f1, f2⟩ := K.f3; obtain ⟨x0, x1, x2⟩ := K.a3)
    go_roundw
    case rel => exact ⟨k + 1, by omega, by go_num, qq (fun j h hj => by
     rcases Nat.lt_or_ge j k with q | q
     ·exact ag.out j h q
     ·obtain rfl : j = k := by omega
      exact ao.out), aj⟩
    case measure => simp [intOf]; omega
   ·have ae := qq (arz ac ag.out ao.out)
    go_wp2_with (go_at_call 123; (with_reducible refine an.out.mono ?_); rintro e w5 ⟨rfl, A⟩; have aj := ab.trans (A.mono ab.size); have N5 := N0.pure A; have K := X3.pure A; obtain ⟨n0, n1, n2⟩ := N5.a3; obtain ⟨f0, f1, f2⟩ := K.f3; obtain ⟨x0, x1, x2⟩ := K.a3); have aa := K.ent3 (.int .u32 W) (.string J) (.string N); have z := afo (Y.trans (aj.mono Y.size)) (B := w.heap.size + 2) (by omega) (.int .u32 W) (.string J) (.string N); unfold ent3 at aa z; obtain ⟨k0, k1, k2⟩ := aa.a3; refine bodyPost_ret (by simp [results, Tryz.results63, go_sem, k0, k1, k2]; rfl) rfl ?_; exact ⟨by rw [ae.out, aw.out]; rfl, z⟩
  ·obtain rfl : k = zk.length := by omega
   have ae := qq (ary (fun j h => ag.out j h h)); obtain ⟨f0, f1, f2⟩ := X2.f3; obtain ⟨x0, x1, x2⟩ := X2.a3; go_wp2; have aa := X2.ent3 (.int .u32 0) (.string ⟨#[]⟩) (.string ⟨#[]⟩); have z := afo ai (B := w.heap.size + 2) (by omega) (.int .u32 0) (.string ⟨#[]⟩) (.string ⟨#[]⟩); unfold ent3 at aa z; obtain ⟨k0, k1, k2⟩ := aa.a3; refine bodyPost_ret (by simp [results, Tryz.results63, go_sem, k0, k1, k2]; rfl) rfl ?_; exact ⟨by rw [ae.out]; rfl, z⟩
theorem axq {m bytes : Nat} {P : Program} {w : World} {o : Oper} {I : Operand → Value} {A : Option Addr} {n D : Nat} {t e : TypeId} {x y : Operand} (J : o.op = .slice t x none (some y) none) (F : ElemT P t e m bytes) (K : I x = .slice A n D) {k : IntKind} {u : Nat} (hy : I y = .int k (u : Int)) (N : u ≤ n) (M : n ≤ D) :
 (execOp I o).run P w = .ok (.value (sliced A 0 u D m)) w := by
 have G : P.elem t = e := by unfold Program.elem; rw [F.ht]
 have H := run_slice_h (P := P) (w := w) t A n D (by rw [G]; exact F.ht) k (u : Int) (by omega) (by omega)
 rw [G, aie F] at H
 simp only [Result.andThen, Int.toNat_natCast] at H
 simp [execOp, J, K, hy, Result.andThen, run_sliceAt_slice (P := P) (w := w) t _ _ _ _ (by rw [G]; exact F.ht), H]
theorem an1 {zk : List BrT} {r : Rf} : (akv zk r).isSome = decide (0 < aa8 (ace (zk.map BrT.b)) r) := by
 unfold akv ao7
 rw [Option.isSome_map, Bool.eq_iff_iff, List.find?_isSome, qm]
 constructor
 ·rintro ⟨b, A, h⟩
  exact abq.2 (List.mem_flatMap.2 ⟨b, A, abq.1 (by simpa using h)⟩)
 ·intro h
  obtain ⟨b, A, h⟩ := List.mem_flatMap.1 (abq.1 h); exact ⟨b, A, by simpa using abq.2 h⟩
theorem apn {s : St} {L : List Rf} {k : Nat} (F : k < L.length) (G : hasM s.qs L[k] = true) (A : decide (0 < aa8 (L.take k) L[k]) = false) (D : decide (0 < aa8 (ace s.zk) L[k]) = false) : abw s (L.take k) (L.drop k) = abw s (L.take (k + 1)) (L.drop (k + 1)) := by
 have A := jq A; have D := jq D
 rw [List.drop_eq_getElem_cons F, abw, qk (by rw [G]; rintro (e | e); exact jp e (by decide); exact A e), qk D, jx F]
theorem aqr {s : St} {L : List Rf} {k : Nat} (A : k < L.length) (h : hasM s.qs L[k] = false ∨ 0 < aa8 (L.take k) L[k]) : abw s (L.take k) (L.drop k) = 7 := by
 rw [List.drop_eq_getElem_cons A, abw, qw h]
theorem axr {s : St} {L : List Rf} {k : Nat} (G : k < L.length) (F : hasM s.qs L[k] = true) (A : decide (0 < aa8 (L.take k) L[k]) = false) (D : decide (0 < aa8 (ace s.zk) L[k]) = true) : abw s (L.take k) (L.drop k) = 9 := by
 have A := jq A; have D := qt D
 rw [List.drop_eq_getElem_cons G, abw, qk (by rw [F]; rintro (e | e); exact jp e (by decide); exact A e), qw D]
theorem akb {P : Prop} (h : P := by
 refine tkH 8 zg ?_
 refine aai 9 rfl (fun Kq hKq => ?_)
 go_simp
 (go_at_call 89; (with_reducible refine (acq _ _).mono ?_); rintro e w3 ⟨rfl, rfl⟩)
 exact ⟨rfl, rfl, hBw2.trans (hb.mono hBw2.size)⟩) : P := h
theorem alu (w : World) (B m : Nat) (ex : Value) (nx : Int) (N : Option Addr) (qc : Nat) (Y : Option Addr) (K : Nat) (U : Option Addr) (X : Nat) (qs : List QuT) (zk : List BrT) (hs : List He) (la : Option Addr) (O : Nat) (L : List Rf) (s : St) (I : MkS B m ex w (StT.mk nx (.slice N qs.length qc) (.slice Y zk.length K) (.slice U hs.length X) qs zk hs)) (am : (StT.mk nx (.slice N qs.length qc) (.slice Y zk.length K) (.slice U hs.length X) qs zk hs).s = s) (ae : qsB nx (qs.map QuT.q) = true) (aj : StSm (StT.mk nx (.slice N qs.length qc) (.slice Y zk.length K) (.slice U hs.length X) qs zk hs)) (hL : Slc abc 2 w (.slice la L.length O) L) (b1 : L.length ≤ 1000000) :
 Calls prog 96 #[.pointer (some ⟨m, 0, none⟩), .slice la L.length O] w fun r w' => (if abw s [] L = 0 then r = .returned (.tuple #[]) else r = .panicked [{ v := .iface 41 (.int .i64 (abw s [] L)), recovered := false }]) ∧ Below w.heap.size w w' := by
 have bu := qq I
 have hQ : QsOk qs := aj.ok ae
 have bm : zk.length ≤ 1000000 := aj.b
 have bj := qq (fun (v : World) (h : Below w.heap.size w v) (q : ByteArray) (id : Int) => ag6 v nx N qc Y zk.length K U hs.length X qs _ q id (I.pure h).rd.qs hQ)
 have bo := qq (fun (v : World) (h : Below w.heap.size w v) (q : ByteArray) (id : Int) => aka v nx N qs.length qc Y K U hs.length X zk q id _ (I.pure h).rd.b (I.pure h).rd.e bm)
 have bb := qq ae
 have bl := qq (show s.qs = qs.map QuT.q by rw [← am]; rfl)
 have bi := qq (show s.zk = zk.map BrT.b by rw [← am]; rfl)
 have aw := qq hL
 have bt : (L.length : Int) ≤ 1000000 := by omega
 have hA := qq I.a.blk
 have a1 : L.length ≤ O := by
  rcases hL with ⟨_, _, hv, _, h0⟩ | ⟨g, off, bq, hv, M, h2, _⟩
  ·rw [h0]; simp
  ·simp only [Value.slice.injEq] at hv; obtain ⟨_, _, rfl⟩ := hv; exact M
 obtain ⟨f, hf⟩ := qx (abw s [] L)
 rw [hf]
 have bg := qq hf
 clear I hQ ae aj hL am hf
 go_enter func96, ntmps96
 go_wp2
 go_loopw [4, 5, 6, 7, 8, 11] (fun s4 s5 s6 s7 s8 al wr => ∃ k : Nat, k ≤ L.length ∧ al = .int .i64 k ∧ Hid (abw s (L.take k) (L.drop k) = f) ∧ Below w.heap.size w wr) (fun s4 s5 s6 s7 s8 al _ => L.length - (intOf al).toNat)
 case atStart => exact ⟨0, Nat.zero_le _, rfl, bg, qz _ _⟩
 case round =>
  obtain ⟨k, hk, rfl, J, W⟩ := hrel; by_cases H : k < L.length
  ·have br : (k : Int) < (L.length : Int) := by omega
   have ad := aw.out.pure W; obtain ⟨g, off, rfl⟩ := ad.addrB H; obtain ⟨q, id, hx, c0, c1⟩ := ado ad H; obtain ⟨mp, ai⟩ := qx (aqg qs ⟨q, id⟩); obtain ⟨m1, m2, mh⟩ := mp; have z := fun (v : World) (h : Below w.heap.size w v) => bj.out v h q id
   have ac := fun (v : World) (h : Below w.heap.size w v) => bo.out v h q id
   obtain ⟨lt, af⟩ := qx (akv zk ⟨q, id⟩); obtain ⟨lx, av⟩ := qx (xnV lt); obtain ⟨lb, ah⟩ := qx lt.isSome; obtain ⟨dp, ak⟩ := qx (decide (0 < aa8 (L.take k) ⟨q, id⟩)); rw [ai] at z; dsimp only at z; rw [af, av, ah] at ac; have M := qq (show hasM s.qs L[k] = mh by rw [bl.out, hx, ← aqh bb.out, ai]); have h2 := qq (show decide (0 < aa8 (L.take k) L[k]) = dp by rw [hx]; exact ak); have h3 := qq (show decide (0 < aa8 (ace s.zk) L[k]) = lb by rw [bi.out, hx, ← an1, af]; exact ah); have bf := qq ak; have ay := qq z; have az := qq ac; have bw : (0 : Int) ≤ (k : Int) := by omega
   clear hx ai z ac af av ah ak ad; go_upto_region 3 with fail; have ax := (qz wr.heap.size wr).alloc (qj _) (.cells #[.string q, .int .u64 id] 68); have E0 := Blk.new wr [.string q, .int .u64 id] 68; have G := W.trans (ax.mono W.size); generalize wr.heap.size = nb at E0 ⊢; generalize wr.alloc (.cells #[.string q, .int .u64 id] 68) = u at E0 G ⊢; clear c0 c1 ax W; have A0 := hA.out.pure G; have hb := aan (qz u.heap.size u); refine wp_region_held_drew (S := fun v => Below u.heap.size u v) (by kernel_rfl) hb (fun zg => ?_); refine tkH 0 zg ?_; refine tkH 1 zg ?_; refine tkH 2 zg ?_; refine tkF 3 zg ?_ (fun v D => (A0.pure D).a4); refine tkF 4 zg ?_ (fun v D => (E0.pure D).a2); refine aai 5 rfl (fun Kq hKq => ?_); go_simp
   (go_at_call 101; (with_reducible refine (ay.out _ (G.trans (hb.mono G.size))).mono ?_); rintro e A ⟨rfl, F⟩)
   have hb : Below u.heap.size u A := hb.trans (F.mono hb.size); refine hKq.out _ _ hb (fun zg => ?_); clear hKq Kq; (try simp only [Act.put, lsT, lsZ, lsS]); refine tkH 6 zg ?_; refine tkH 7 zg ?_; refine tkH 8 zg ?_; refine tkH 9 zg ?_; refine tkH 10 zg ?_; refine tkH 11 zg ?_; refine tkH 12 zg ?_; refine wpAnyH_done (by kernel_rfl) ?_ _; have hBw2 := G.trans (hb.mono G.size); have ar := E0.pure hb; have bh := A0.pure hb; clear hb zg F; go_upto_region 4 with fail; cases mh
   ·have ag : f = 7 := J.out.symm.trans (aqr H (.inl M.out))
    subst ag; have hb := aan (qz A.heap.size A); refine wp_region_held_drew (S := fun v => Below A.heap.size A v) (by kernel_rfl) hb (fun zg => ?_); refine tkH 0 zg ?_; refine tkH 1 zg ?_; refine agu 2 28 rfl rfl zg ?_; (try simp only [Act.put, lsT, lsZ, lsS]); refine agu 3 29 rfl rfl zg ?_; (try simp only [Act.put, lsT, lsZ, lsS]); refine agu 4 30 rfl rfl zg ?_; (try simp only [Act.put, lsT, lsZ, lsS]); refine agu 5 31 rfl rfl zg ?_; (try simp only [Act.put, lsT, lsZ, lsS]); refine agu 6 32 rfl rfl zg ?_; (try simp only [Act.put, lsT, lsZ, lsS]); refine agu 7 33 rfl rfl zg ?_; (try simp only [Act.put, lsT, lsZ, lsS]); exact akb
   have hb := aan (qz A.heap.size A); refine wp_region_held_drew (S := fun v => Below A.heap.size A v) (by kernel_rfl) hb (fun zg => ?_); refine tkH 0 zg ?_; refine tkH 1 zg ?_; refine tkH 2 zg ?_; refine tkH 3 zg ?_; refine avt 4 30 (v := sliced (some ⟨g, off, none⟩) 0 k O 2) rfl rfl (by kernel_rfl) (by kernel_rfl) (by kernel_rfl) (fun _ _ _ h => h) (Or.inl ⟨by kernel_rfl, ?_⟩) zg ?_
   ·(intro v D; refine axq (t := 32) (x := .tmp 28) (y := .tmp 29) (k := .i64) ?_ amm ?_ ?_ hk a1; (rfl); (rfl); (rfl))
   (try simp only [Act.put, lsT, lsZ, lsS]); refine tkF 5 zg ?_ (fun v D => (ar.pure D).a2); have aa := (aw.out.pure hBw2).part (Nat.zero_le k) hk; rw [List.drop_zero] at aa; generalize sliced (some ⟨g, off, none⟩) 0 k O 2 = sv at aa ⊢; have Z : (L.take k).length = k := by rw [List.length_take]; omega
   obtain ⟨sa, sc, au, bk⟩ := aa.len; rw [Z] at au; subst au
   have bd := qq (fun (v : World) (h : Below A.heap.size A v) => by
    have h4 := aa.pure h; have := afc v sa sc (L.take k) ⟨q, id⟩ (by rw [Z]; exact h4) (by rw [List.length_take]; omega); rw [Z] at this
    exact this)
   clear Z bk; refine aai 6 rfl (fun Kq hKq => ?_); go_simp
   (go_at_call 123; (with_reducible refine (bd.out _ hb).mono ?_); rw [bf.out]; rintro e w3 ⟨rfl, F⟩)
   have hb : Below A.heap.size A w3 := hb.trans (F.mono hb.size); refine hKq.out _ _ hb (fun zg => ?_); clear hKq Kq; (try simp only [Act.put, lsT, lsZ, lsS]); cases dp
   rotate_left 1
   ·have ag : f = 7 := J.out.symm.trans (aqr H (.inr (qt h2.out)))
    subst ag; refine tkH 7 zg ?_; exact akb
   refine tkH 7 zg ?_; refine tkH 8 zg ?_; refine aai 9 rfl (fun Kq hKq => ?_); go_simp
   (go_at_call 89; (with_reducible refine (ab9 _ _).mono ?_); rintro e w4 ⟨rfl, rfl⟩)
   refine hKq.out _ _ hb (fun zg => ?_); clear hKq Kq; (try simp only [Act.put, lsT, lsZ, lsS]); refine wpAnyH_done (by kernel_rfl) ?_ _; have ab := hBw2.trans (hb.mono hBw2.size); have ao := ar.pure hb; have aq := bh.pure hb; clear hb zg F; go_upto_region 5 with fail; have hb := aan (qz w3.heap.size w3); refine wp_region_held_drew (S := fun v => Below w3.heap.size w3 v) (by kernel_rfl) hb (fun zg => ?_); refine tkH 0 zg ?_; refine tkH 1 zg ?_; refine tkH 2 zg ?_; refine tkF 3 zg ?_ (fun v D => (aq.pure D).a4); refine tkF 4 zg ?_ (fun v D => (ao.pure D).a2); refine aai 5 rfl (fun Kq hKq => ?_); go_simp
   (go_at_call 63; (with_reducible refine (az.out _ (ab.trans (hb.mono ab.size))).mono ?_); rintro e w4 ⟨rfl, F⟩)
   have hb : Below w3.heap.size w3 w4 := hb.trans (F.mono hb.size); refine hKq.out _ _ hb (fun zg => ?_); clear hKq Kq; (try simp only [Act.put, lsT, lsZ, lsS]); refine tkH 6 zg ?_; refine tkH 7 zg ?_; refine tkH 8 zg ?_; refine tkH 9 zg ?_; refine wpAnyH_done (by kernel_rfl) ?_ _; have an := ab.trans (hb.mono ab.size); have b0 := ao.pure hb; have bx := aq.pure hb; clear hb zg F; cases lb
   rotate_left 1
   ·have bn : f = 9 := J.out.symm.trans (axr H M.out h2.out h3.out)
    subst bn; go_wp2_with (go_at_call 89; (with_reducible refine (acq _ _).mono ?_); rintro e w5 ⟨rfl, rfl⟩); exact ⟨rfl, rfl, an⟩
   have a0 := qq ((apn H M.out h2.out h3.out).symm.trans J.out); go_wp2_with (go_at_call 89; (with_reducible refine (ab9 _ _).mono ?_); rintro e w5 ⟨rfl, rfl⟩); go_roundw
   case rel => exact ⟨k + 1, by omega, by go_num, a0, an⟩
   case measure => simp [intOf]; omega
  ·obtain rfl : k = L.length := by omega
   have bp : f = 0 := by rw [← J.out, List.drop_length]; rfl
   subst bp; go_wp2; go_end0; exact ⟨rfl, W⟩
theorem akc {base : Nat} (w : World) (g D i j : Nat) (W : j = i + 1) (L : List BrT) (h : Own base 62 5 aa7 w (.slice (some ⟨g, 0, none⟩) L.length D) L) (hi : i < L.length) (hL : L.length ≤ 1000000) :
 Calls prog 148 #[.slice (some ⟨g, 0, none⟩) L.length D, .int .i64 i, .int .i64 j] w fun e Z =>
  e = .returned (.slice (some ⟨g, 0, none⟩) (L.length - 1) D) ∧ Own base 62 5 aa7 Z (.slice (some ⟨g, 0, none⟩) (L.length - 1) D) (L.eraseIdx i) ∧ Upd (· = g) w Z := by
 have mixed : prog.follows .mixedOrders = true := by kernel_rfl
 obtain ⟨i0, ae, an, ad, ah⟩ := info_parts aqk
 have ab : L.length ≤ D ∧ D ≤ 9223372036854775807 := by
  exact aew
 have I : ∀ t u, (L.flatMap aa7)[t]? = some u → w.cell? ⟨g, 0 + t, none⟩ = some u := fun t u hu => by
  exact agn
 have Y : ∀ t, w.frozen? ⟨g, t, none⟩ = false := fun t => h.frozen t
 obtain ⟨news, F⟩ := zj ((L.drop j).flatMap aa7)
 have hlen : news.length = (L.length - j) * 5 := by rw [F, abp aag]; simp
 have U : ∀ t, news[t]? = (L.flatMap aa7)[j * 5 + t]? := fun t => by rw [F, aee aag, List.getElem?_drop]
 obtain ⟨A, hA, ac⟩ : ∃ A : Addr, (if D = j then some (⟨g, 0, none⟩ : Addr) else some ⟨g, j * 5, none⟩) = some A ∧ Hid (∀ t u, news[t]? = some u → w.drew.cell? (A.add t) = some u) := by
  by_cases hc : D = j
  ·exact agm
  ·refine ⟨⟨g, j * 5, none⟩, by simp [hc], qq (fun t u hu => ?_)⟩
   rw [U t] at hu; have := I _ _ hu; have e : (⟨g, j * 5, none⟩ : Addr).add t = ⟨g, 0 + (j * 5 + t), none⟩ := by unfold Addr.add; split <;> simp_all
   rw [e]; exact this
 have s1 := qq hlen
 have s2 : Hid (∀ u ∈ news, u.oneCell' = true) := qq (by
  intro u hu; rw [F] at hu; obtain ⟨x, _, hx⟩ := List.mem_flatMap.1 hu
  exact aeb x u hx)
 have K : (L.flatMap aa7).length = L.length * 5 := abp aag L
 have s3 : Hid (∀ t, t < news.length → (w.drew.cell? ⟨g, 0 + i * 5 + t, none⟩).isSome = true ∧ w.drew.frozen? ⟨g, 0 + i * 5 + t, none⟩ = false) := qq (by
  intro t H; rw [hlen] at H; have M : i * 5 + t < (L.flatMap aa7).length := by rw [K]; omega
  refine ⟨?_, Y _⟩; show (w.cell? _).isSome = true
  rw [Nat.add_assoc, I _ _ (List.getElem?_eq_getElem M)]; rfl)
 obtain ⟨W1, J⟩ := zj (w.drew.setCells g (0 + i * 5) news)
 have hown1 : W1.ownsRow base 62 5 (.slice (some ⟨g, 0, none⟩) L.length D) L.length (abg (L.flatMap aa7) (i * 5) news) := by
  have := abh news (i * 5) w.drew _ h; rw [J]; simpa using this
 have X : (abg (L.flatMap aa7) (i * 5) news).length = L.length * 5 := by rw [ab7, K]
 have am : ∀ N, (Builtin.clear_ #[24] N #[.slice (some ⟨g, (i + (L.length - j)) * 5, none⟩) (L.length - (i + (L.length - j))) (D - (i + (L.length - j)))]).run prog W1 = .ok (.tuple #[]) (W1.setCells g ((i + (L.length - j)) * 5) [.int .u32 0, .string ⟨#[]⟩, .string ⟨#[]⟩, .slice none 0 0, .slice none 0 0]) := fun N => by
  refine aev W1 _ 62 N (.agg #[.int .u32 0, .string ⟨#[]⟩, .string ⟨#[]⟩, .slice none 0 0, .slice none 0 0]) _ underlying24 (fun w => by kernel_rfl) rfl (by simp [Value.oneCell']) g ((i + (L.length - j)) * 5) _ _ (by omega) (fun t H => ?_) (fun t H => ?_)
  ·simp only [jn, List.length_nil] at H
   have M : (i + (L.length - j)) * 5 + t < (abg (L.flatMap aa7) (i * 5) news).length := by rw [X]; omega
   have := World.ownsRow.cells hown1 (g := g) rfl _ _ (List.getElem?_eq_getElem M); have e : (⟨g, 0, none⟩ : Addr).add ((i + (L.length - j)) * 5 + t) = ⟨g, (i + (L.length - j)) * 5 + t, none⟩ := by unfold Addr.add; split <;> simp_all
   rw [← e, this]; rfl
  ·exact agk
 have hW := qq J
 have aa := qq hown1
 have z := qq F
 clear J hown1 U F hlen I Y h X K
 obtain ⟨ai, ak⟩ := ab
 have al : j ≤ L.length := by omega
 have ag : j ≤ D := by omega
 have af : i < j := by omega
 have aj : ¬ i = j := by omega
 have O := qq W
 clear W
 have ao : i ≤ D := by omega
 go_enter func148, ntmps148
 go_wp2_with fail
 go_region_law (refine step_append_room rfl (.tmp 22) (.tmp 25) 24 rfl 62 i0 5 underlying24 ae ad g 0 i D (by simp [Act.eval, Act.put]) A (L.length - j) (D - j) news (by simp [Act.eval, Act.put]) s1.out ac.out s2.out (by omega) s3.out ?_; rw [← hW.out])
 go_wp2
 go_ret
 have e1 : i + (L.length - j) = L.length - 1 := by have := O.out; omega
 rw [e1]
 refine ⟨rfl, ?_, ?_⟩
 ·have G := apm (abh [.int .u32 0, .string ⟨#[]⟩, .string ⟨#[]⟩, .slice none 0 0, .slice none 0 0] ((L.length - 1) * 5) W1 _ aa.out) (n' := L.length - 1) (by omega)
  rw [z.out] at G; have hj := O.out; rw [hj] at G; rw [ahs aag L i hi _ rfl] at G; unfold Own; rw [List.length_eraseIdx_of_lt hi]; exact G
 ·exact agl
theorem akw {base : Nat} (w : World) (g A i : Nat) (L : List BrT) (h : Own base 62 5 aa7 w (.slice (some ⟨g, 0, none⟩) L.length A) L) (hi : i < L.length) (F : L.length ≤ 1000000) :
 Calls prog 148 #[.slice (some ⟨g, 0, none⟩) L.length A, .int .i64 i, .int .i64 ((i : Int) + 1)] w fun e D =>
  e = .returned (.slice (some ⟨g, 0, none⟩) (L.length - 1) A) ∧ Own base 62 5 aa7 D (.slice (some ⟨g, 0, none⟩) (L.length - 1) A) (L.eraseIdx i) ∧ Upd (· = g) w D := by
 have := akc w g A i (i + 1) rfl L h hi F
 rwa [Int.natCast_add] at this
end Go.Proofs.YtgnaifhmcllnlaaGreatDoor
