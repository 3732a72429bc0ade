/- Slice expressions of a slice that reads as rows: the result under a name of its own. Conditions: bounds. -/
import Derived.Test.YtgpdbifgbabnnaaOwn
namespace Go.Proofs.Ytgpdbifgbabnnaa
open Go.RowKit

/-- A part of the rows. -/
theorem Slc.part {α : Type} {enc : α → List Value} {m : Nat} {w : World} {a : Option Addr} {n cap : Nat} {L : List α} (h : Slc enc m w (.slice a n cap) L) {l u : Nat} (hl : l ≤ u) (hu : u ≤ L.length) :
    Slc enc m w (sliced a l u cap m) ((L.take u).drop l) := by
  rcases h with ⟨a', cap', hv, hc, rfl⟩ | ⟨g, off, cap', hv, h1, h2, h3⟩
  · simp only [Value.slice.injEq] at hv
    obtain ⟨rfl, rfl, rfl⟩ := hv
    simp only [List.length_nil] at hu
    obtain rfl : u = 0 := by omega
    obtain rfl : l = 0 := by omega
    refine .inl ⟨_, cap - 0, rfl, by omega, by simp⟩
  · simp only [Value.slice.injEq] at hv
    obtain ⟨rfl, rfl, rfl⟩ := hv
    unfold sliced
    have hlen : ((L.take u).drop l).length = u - l := by rw [List.length_drop, List.length_take]; omega
    by_cases hcl : cap = l
    · have hul : u = l := by omega
      rw [if_pos hcl]
      refine .inl ⟨_, cap - l, by rw [hul, Nat.sub_self], by omega, List.eq_nil_of_length_eq_zero (by rw [hlen]; omega)⟩
    · rw [if_neg hcl]
      refine .inr ⟨g, off + l * m, cap - l, ?_, by rw [hlen]; omega, by omega, fun i hi j x hx => ?_⟩
      · rw [hlen]
        simp only [Option.map_some]
        congr 2
        unfold Addr.add; split <;> simp_all
      · rw [hlen] at hi
        have e : ((L.take u).drop l)[i]'(by rw [hlen]; exact hi) = L[l + i]'(by omega) := by rw [List.getElem_drop, List.getElem_take]
        rw [e] at hx
        have := h3 (l + i) (by omega) j x hx
        rw [Nat.add_mul] at this
        rw [show off + l * m + i * m + j = off + (l * m + i * m) + j by omega]
        exact this

/-- The shape of a slice, its length under a name of its own. -/
theorem Own.shape3 {α : Type} {enc : α → List Value} {m base : Nat} {e : TypeId} {w : World} {v : Value} {L : List α} (h : Own base e m enc w v L) : ∃ a n c, v = .slice a n c := by
  rcases h.cases with ⟨rfl, _⟩ | ⟨g, cap, rfl, _⟩
  · exact ⟨_, _, _, rfl⟩
  · exact ⟨_, _, _, rfl⟩
theorem Slc.shape3 {α : Type} {enc : α → List Value} {m : Nat} {w : World} {v : Value} {L : List α} (h : Slc enc m w v L) : ∃ a n c, v = .slice a n c := by
  obtain ⟨a, c, rfl, _⟩ := h.len; exact ⟨_, _, _, rfl⟩

section
variable {α : Type} {enc : α → List Value} {m bytes : Nat} {P : Program} {w : World} {ops : Array Oper} {rest : List Oper} {o : Oper} {a : Act} {Q : Exit → Act → World → Prop} {v : Value} {L : List α} {t e : TypeId} {x y z : Operand}

theorem size_run (hE : ElemT P t e m bytes) : (sizeOf e).run P w = .ok m w := by
  obtain ⟨i, z, hi, hz, hsize, hby, hzs⟩ := hE.ex
  simp [sizeOf, typeInfo, hi, hsize]

/-- 'x[:u]'. -/
theorem wpList_slc_h (hgd : o.guard = none) (ho : o.op = .slice t x none (some y) none) (hE : ElemT P t e m bytes) (hx : a.eval x = v) (hS : Slc enc m w v L) {k : IntKind} {u : Nat} {U : Int} (hy : a.eval y = .int k U) (hU : U = (u : Nat)) (hu : u ≤ L.length)
    (h : ∀ v', Slc enc m w v' (L.take u) → wpList P ops Q rest (a.put o.dst v') w) : wpList P ops Q (o :: rest) a w := by
  obtain ⟨A, cap, rfl, hm⟩ := hS.len
  have hcap : L.length ≤ cap := by
    rcases hS with ⟨_, _, hv, _, h0⟩ | ⟨g, off, cap', hv, h1, h2, _⟩
    · rw [h0]; simp
    · simp only [Value.slice.injEq] at hv; obtain ⟨_, _, rfl⟩ := hv; exact h1
  have hp := h _ (by have := hS.part (Nat.zero_le u) hu; rwa [List.drop_zero] at this)
  refine wpList_plain hgd fun K' hK' => ?_
  unfold Oper.wp
  subst hU
  have hel : P.elem t = e := by unfold Program.elem; rw [hE.ht]
  have hr := run_slice_h (P := P) (w := w) t A L.length cap (by rw [hel]; exact hE.ht) k (u : Int) (by omega) (by omega)
  rw [hel, size_run hE] at hr
  simp only [Result.andThen, Int.toNat_natCast] at hr
  simp [execOp, ho, hx, hy, Result.andThen, run_sliceAt_slice (P := P) (w := w) t _ _ _ _ (by rw [hel]; exact hE.ht), hr]
  exact hK' _ _ hp

/-- 'x[l:]'. -/
theorem wpList_slc_l (hgd : o.guard = none) (ho : o.op = .slice t x (some y) none none) (hE : ElemT P t e m bytes) (hx : a.eval x = v) (hS : Slc enc m w v L) {k : IntKind} {l : Nat} {U : Int} (hy : a.eval y = .int k U) (hU : U = (l : Nat)) (hl : l ≤ L.length)
    (h : ∀ v', Slc enc m w v' (L.drop l) → wpList P ops Q rest (a.put o.dst v') w) : wpList P ops Q (o :: rest) a w := by
  obtain ⟨A, cap, rfl, hm⟩ := hS.len
  have hp := h _ (by have := hS.part hl (Nat.le_refl _); rwa [List.take_length] at this)
  refine wpList_plain hgd fun K' hK' => ?_
  unfold Oper.wp
  subst hU
  have hel : P.elem t = e := by unfold Program.elem; rw [hE.ht]
  have hr := run_slice_l (P := P) (w := w) t A L.length cap (by rw [hel]; exact hE.ht) k (l : Int) (by omega) (by omega)
  rw [hel, size_run hE] at hr
  simp only [Result.andThen, Int.toNat_natCast] at hr
  simp [execOp, ho, hx, hy, Result.andThen, run_sliceAt_slice (P := P) (w := w) t _ _ _ _ (by rw [hel]; exact hE.ht), hr]
  exact hK' _ _ hp

/-- 'x[l:u]'. -/
theorem wpList_slc_lh (hgd : o.guard = none) (ho : o.op = .slice t x (some y) (some z) none) (hE : ElemT P t e m bytes) (hx : a.eval x = v) (hS : Slc enc m w v L) {k k' : IntKind} {l u : Nat} {U U' : Int} (hy : a.eval y = .int k U) (hU : U = (l : Nat)) (hz : a.eval z = .int k' U') (hU' : U' = (u : Nat)) (hl : l ≤ u) (hu : u ≤ L.length)
    (h : ∀ v', Slc enc m w v' ((L.take u).drop l) → wpList P ops Q rest (a.put o.dst v') w) : wpList P ops Q (o :: rest) a w := by
  obtain ⟨A, cap, rfl, hm⟩ := hS.len
  have hcap : L.length ≤ cap := by
    rcases hS with ⟨_, _, hv, _, h0⟩ | ⟨g, off, cap', hv, h1, h2, _⟩
    · rw [h0]; simp
    · simp only [Value.slice.injEq] at hv; obtain ⟨_, _, rfl⟩ := hv; exact h1
  have hp := h _ (hS.part hl hu)
  refine wpList_plain hgd fun K' hK' => ?_
  unfold Oper.wp
  subst hU hU'
  have hel : P.elem t = e := by unfold Program.elem; rw [hE.ht]
  have hr := run_slice_lh (P := P) (w := w) t A L.length cap (by rw [hel]; exact hE.ht) k k' (l : Int) (u : Int) (by omega) (by omega) (by omega)
  rw [hel, size_run hE] at hr
  simp only [Result.andThen, Int.toNat_natCast] at hr
  simp [execOp, ho, hx, hy, hz, Result.andThen, run_sliceAt_slice (P := P) (w := w) t _ _ _ _ (by rw [hel]; exact hE.ht), hr]
  exact hK' _ _ hp
end
end Go.Proofs.Ytgpdbifgbabnnaa
