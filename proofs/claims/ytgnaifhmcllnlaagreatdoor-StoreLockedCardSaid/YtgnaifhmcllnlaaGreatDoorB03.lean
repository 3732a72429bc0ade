/- Values: Bytes and Put, the document's. Conditions: Bytes: the value may be. Written by gen_valR.py. (Texts joined.) -/
import Derived.Test.YtgnaifhmcllnlaaGreatDoorB02
set_option maxRecDepth 100000
set_option maxHeartbeats 6400000
set_option linter.unusedSimpArgs false
set_option linter.unusedVariables false
namespace Go.Proofs.YtgnaifhmcllnlaaGreatDoor
open Go.RowKit Tryz
def B4 (w : World) (b : Nat) (v : Value) : Prop := ∃ cs, Blk w b cs ∧ cs[4]? = some v
theorem B4.mk {w : World} {b : Nat} {v : Value} {A : List Value} (h : Blk w b A) (D : A[4]? = some v) : B4 w b v := ⟨A, h, D⟩
theorem B4.pure {w A : World} {b : Nat} {v : Value} (h : B4 w b v) (E : Below w.heap.size w A) : B4 A b v := by
 obtain ⟨D, F, G⟩ := h; exact ⟨D, F.pure E, G⟩
theorem B4.at {w : World} {b : Nat} {v : Value} (h : B4 w b v) : w.cell? ⟨b, 4, none⟩ = some v := by
 obtain ⟨E, D, A⟩ := h; exact D.at 4 A
theorem beu {l : List VT} (h : ∀ j, (h : j < l.length) → l[j].v.may = true) : V.mayL (l.map VT.v) = true := by
 rw [av8, Bool.not_eq_true', List.any_eq_false]
 intro x D
 obtain ⟨j, A, rfl⟩ := List.getElem_of_mem D
 simp [h j A]
theorem bga {l : List VT} {k : Nat} (A : k < l.length) (h : l[k].v.may = false) : V.mayL (l.map VT.v) = false := by
 rw [av8, Bool.not_eq_false', List.any_eq_true]
 exact ⟨_, qy A, by simp [h]⟩
theorem bgj (t : VT) : ∀ (P : Nat → Prop) (w : World), Rd P w t → Calls prog 213 #[t.arg] w fun e w' => e = .returned (.bool t.v.may) ∧ Below w.heap.size w w' := by
 induction t using VT.ind with
 | h t ih =>
  intro P w  hR ; have b8 := hR; obtain ⟨O, Z, D, ka, kc, la, lc, ks, l, rfl, hK, hL, bw, ch⟩ := hR.open; rw [VT.arg_mk]; have bi : ∀ x ∈ l, Rd P w x := hR.sub
  have bo : ∀ x ∈ l, ∀ (P : Nat → Prop) (w : World), Rd P w x → Calls prog 213 #[x.arg] w fun e w' => e = .returned (.bool x.v.may) ∧ Below w.heap.size w w' := ih
  have bm := qq bo; have bg := qq bi; have cb : 0 ≤ Z := hR.n0; have cc : 0 ≤ O := hR.k0; have ce : O < 256 := hR.k1; clear ih bo bi hR b8; have E := (qz w.heap.size w).alloc (qj _) (.cells #[.int .u8 O, .int .u64 Z, .string D, .slice ka ks.length kc, .slice la l.length lc] 56); have b0 := Blk.new w [.int .u8 O, .int .u64 Z, .string D, .slice ka ks.length kc, .slice la l.length lc] 56; obtain ⟨c0, c1, c2, c3, c4⟩ := b0.a5; rw [ayg]; obtain ⟨G, aw⟩ := qx (aaw O Z D ks l.length && V.mayL (l.map VT.v)); rw [aw]; have H := qq aw; clear aw; have bx := hK.pure E; by_cases q8 : O = 8
  ·subst q8
   by_cases J : ks.length = 0
   rotate_left 1
   ·have K : 0 < ks.length := by omega
    have N : ks ≠ [] := fun e => by rw [e] at K; simp at K
    have A := qq (show G = false by rw [← H.out]; have h2 : ks.isEmpty = false := (by rw [Bool.eq_false_iff, ne_eq, List.isEmpty_iff]; exact N); unfold aaw; rw [h2]; simp); clear J N; go_enter func213, ntmps213; go_wp2; go_ret; exact ⟨by rw [A.out]; rfl, E⟩
   obtain rfl : ks = [] := List.length_eq_zero_iff.1 J; clear J; by_cases I : l.length = 0
   rotate_left 1
   ·have K : 0 < l.length := by omega
    have A := qq (show G = false by rw [← H.out]; have h3 : (l.length == 0) = false := ju.2 I; unfold aaw; rw [h3]; simp); clear I; go_enter func213, ntmps213; go_wp2; go_ret; exact ⟨by rw [A.out]; rfl, E⟩
   have ac := qq I; obtain rfl : l = [] := List.length_eq_zero_iff.1 I; clear I; by_cases F : D.size = 0
   rotate_left 1
   ·have M : D.toList.isEmpty = false := adh F
    have e2 : ¬ D.toList = [] := fun h => by rw [h] at M; cases M
    have A := qq (show G = false by rw [← H.out]; rw [Bool.and_eq_false_iff]; left; rw [Bool.eq_false_iff]; intro e; rcases adg e with h | h | h | h | h | h | h | h <;> omega); clear F; go_enter func213, ntmps213; go_wp2; go_ret; exact ⟨by rw [A.out]; rfl, E⟩
   have M : D.toList = [] := acs F; have aa : (D.size : Int) = 0 := by omega
   have ae : decide ((4096 : Int) < (D.size : Int)) = false := qg (by omega); have X := qq F; clear F aa; by_cases U : Z ≤ 1
   ·skip
    have A := qq (show G = true by rw [← H.out]; simp [aaw, X.out, U, V.mayL]); go_enter func213, ntmps213; go_wp2; go_ret; exact ⟨by rw [A.out]; rfl, E⟩
   ·have ai : 1 < Z := by omega
    have A := qq (show G = false by rw [← H.out]; simp [aaw, U]); go_enter func213, ntmps213; go_wp2; go_ret; exact ⟨by rw [A.out]; rfl, E⟩
  by_cases q2 : O = 2
  ·subst q2
   by_cases J : ks.length = 0
   rotate_left 1
   ·have K : 0 < ks.length := by omega
    have N : ks ≠ [] := fun e => by rw [e] at K; simp at K
    have A := qq (show G = false by rw [← H.out]; have h2 : ks.isEmpty = false := (by rw [Bool.eq_false_iff, ne_eq, List.isEmpty_iff]; exact N); unfold aaw; rw [h2]; simp); clear J N; go_enter func213, ntmps213; go_wp2; go_ret; exact ⟨by rw [A.out]; rfl, E⟩
   obtain rfl : ks = [] := List.length_eq_zero_iff.1 J; clear J; by_cases I : l.length = 0
   rotate_left 1
   ·have K : 0 < l.length := by omega
    have A := qq (show G = false by rw [← H.out]; have h3 : (l.length == 0) = false := ju.2 I; unfold aaw; rw [h3]; simp); clear I; go_enter func213, ntmps213; go_wp2; go_ret; exact ⟨by rw [A.out]; rfl, E⟩
   have ac := qq I; obtain rfl : l = [] := List.length_eq_zero_iff.1 I; clear I; by_cases F : D.size = 0
   rotate_left 1
   ·have M : D.toList.isEmpty = false := adh F
    have e2 : ¬ D.toList = [] := fun h => by rw [h] at M; cases M
    have A := qq (show G = false by rw [← H.out]; rw [Bool.and_eq_false_iff]; left; rw [Bool.eq_false_iff]; intro e; rcases adg e with h | h | h | h | h | h | h | h <;> omega); clear F; go_enter func213, ntmps213; go_wp2; go_ret; exact ⟨by rw [A.out]; rfl, E⟩
   have M : D.toList = [] := acs F; have aa : (D.size : Int) = 0 := by omega
   have ae : decide ((4096 : Int) < (D.size : Int)) = false := qg (by omega); have X := qq F; clear F aa; by_cases U : Z ≤ 255
   ·skip
    have A := qq (show G = true by rw [← H.out]; simp [aaw, X.out, U, V.mayL]); go_enter func213, ntmps213; go_wp2; go_ret; exact ⟨by rw [A.out]; rfl, E⟩
   ·have ai : 255 < Z := by omega
    have A := qq (show G = false by rw [← H.out]; simp [aaw, U]); go_enter func213, ntmps213; go_wp2; go_ret; exact ⟨by rw [A.out]; rfl, E⟩
  by_cases ba : O = 49
  ·subst ba
   by_cases J : ks.length = 0
   rotate_left 1
   ·have K : 0 < ks.length := by omega
    have N : ks ≠ [] := fun e => by rw [e] at K; simp at K
    have A := qq (show G = false by rw [← H.out]; have h2 : ks.isEmpty = false := (by rw [Bool.eq_false_iff, ne_eq, List.isEmpty_iff]; exact N); unfold aaw; rw [h2]; simp); clear J N; go_enter func213, ntmps213; go_wp2; go_ret; exact ⟨by rw [A.out]; rfl, E⟩
   obtain rfl : ks = [] := List.length_eq_zero_iff.1 J; clear J; by_cases I : l.length = 0
   rotate_left 1
   ·have K : 0 < l.length := by omega
    have A := qq (show G = false by rw [← H.out]; have h3 : (l.length == 0) = false := ju.2 I; unfold aaw; rw [h3]; simp); clear I; go_enter func213, ntmps213; go_wp2; go_ret; exact ⟨by rw [A.out]; rfl, E⟩
   have ac := qq I; obtain rfl : l = [] := List.length_eq_zero_iff.1 I; clear I; by_cases F : D.size = 0
   rotate_left 1
   ·have M : D.toList.isEmpty = false := adh F
    have e2 : ¬ D.toList = [] := fun h => by rw [h] at M; cases M
    have A := qq (show G = false by rw [← H.out]; rw [Bool.and_eq_false_iff]; left; rw [Bool.eq_false_iff]; intro e; rcases adg e with h | h | h | h | h | h | h | h <;> omega); clear F; go_enter func213, ntmps213; go_wp2; go_ret; exact ⟨by rw [A.out]; rfl, E⟩
   have M : D.toList = [] := acs F; have aa : (D.size : Int) = 0 := by omega
   have ae : decide ((4096 : Int) < (D.size : Int)) = false := qg (by omega); have X := qq F; clear F aa; have A := qq (show G = true by rw [← H.out]; simp [aaw, X.out, V.mayL]); go_enter func213, ntmps213; go_wp2; go_ret; exact ⟨by rw [A.out]; rfl, E⟩
  by_cases bd : O = 50
  ·subst bd
   by_cases J : ks.length = 0
   rotate_left 1
   ·have K : 0 < ks.length := by omega
    have N : ks ≠ [] := fun e => by rw [e] at K; simp at K
    have A := qq (show G = false by rw [← H.out]; have h2 : ks.isEmpty = false := (by rw [Bool.eq_false_iff, ne_eq, List.isEmpty_iff]; exact N); unfold aaw; rw [h2]; simp); clear J N; go_enter func213, ntmps213; go_wp2; go_ret; exact ⟨by rw [A.out]; rfl, E⟩
   obtain rfl : ks = [] := List.length_eq_zero_iff.1 J; clear J; by_cases I : l.length = 0
   rotate_left 1
   ·have K : 0 < l.length := by omega
    have A := qq (show G = false by rw [← H.out]; have h3 : (l.length == 0) = false := ju.2 I; unfold aaw; rw [h3]; simp); clear I; go_enter func213, ntmps213; go_wp2; go_ret; exact ⟨by rw [A.out]; rfl, E⟩
   have ac := qq I; obtain rfl : l = [] := List.length_eq_zero_iff.1 I; clear I; by_cases F : D.size = 0
   rotate_left 1
   ·have M : D.toList.isEmpty = false := adh F
    have e2 : ¬ D.toList = [] := fun h => by rw [h] at M; cases M
    have A := qq (show G = false by rw [← H.out]; rw [Bool.and_eq_false_iff]; left; rw [Bool.eq_false_iff]; intro e; rcases adg e with h | h | h | h | h | h | h | h <;> omega); clear F; go_enter func213, ntmps213; go_wp2; go_ret; exact ⟨by rw [A.out]; rfl, E⟩
   have M : D.toList = [] := acs F; have aa : (D.size : Int) = 0 := by omega
   have ae : decide ((4096 : Int) < (D.size : Int)) = false := qg (by omega); have X := qq F; clear F aa; have A := qq (show G = true by rw [← H.out]; simp [aaw, X.out, V.mayL]); go_enter func213, ntmps213; go_wp2; go_ret; exact ⟨by rw [A.out]; rfl, E⟩
  by_cases a0 : O = 240
  ·subst a0
   by_cases J : ks.length = 0
   rotate_left 1
   ·have K : 0 < ks.length := by omega
    have N : ks ≠ [] := fun e => by rw [e] at K; simp at K
    have A := qq (show G = false by rw [← H.out]; have h2 : ks.isEmpty = false := (by rw [Bool.eq_false_iff, ne_eq, List.isEmpty_iff]; exact N); unfold aaw; rw [h2]; simp); clear J N; go_enter func213, ntmps213; go_wp2; go_ret; exact ⟨by rw [A.out]; rfl, E⟩
   obtain rfl : ks = [] := List.length_eq_zero_iff.1 J; clear J; by_cases I : l.length = 0
   rotate_left 1
   ·have K : 0 < l.length := by omega
    have A := qq (show G = false by rw [← H.out]; have h3 : (l.length == 0) = false := ju.2 I; unfold aaw; rw [h3]; simp); clear I; go_enter func213, ntmps213; go_wp2; go_ret; exact ⟨by rw [A.out]; rfl, E⟩
   have ac := qq I; have ar : (l.length : Int) = 0 ∨ True := .inr trivial; clear ar I; have aq : ¬ 0 < l.length := by have := ac.out; omega
   have bn : decide (0 < l.length) = false := qg aq; by_cases F : D.size = 0
   rotate_left 1
   ·have M : D.toList.isEmpty = false := adh F
    have e2 : ¬ D.toList = [] := fun h => by rw [h] at M; cases M
    have A := qq (show G = false by rw [← H.out]; rw [Bool.and_eq_false_iff]; left; rw [Bool.eq_false_iff]; intro e; rcases adg e with h | h | h | h | h | h | h | h <;> omega); clear F; go_enter func213, ntmps213; go_wp2; go_ret; exact ⟨by rw [A.out]; rfl, E⟩
   have M : D.toList = [] := acs F; have aa : (D.size : Int) = 0 := by omega
   have ae : decide ((4096 : Int) < (D.size : Int)) = false := qg (by omega); have X := qq F; clear F aa; by_cases U : Z = 0
   rotate_left 1
   ·have ai : (Z != 0) = true := bne_iff_ne.2 U
    have A := qq (show G = false by rw [← H.out]; simp [aaw, U]); go_enter func213, ntmps213; go_wp2; go_ret; exact ⟨by rw [A.out]; rfl, E⟩
   subst U; have ad := qq (show G = V.mayL (l.map VT.v) by rw [← H.out]; simp [aaw, ac.out, X.out]); go_enter func213, ntmps213; go_wp2; go_loopw [5] (fun Y wr => ∃ k : Nat, k ≤ l.length ∧ Y = .int .i64 k ∧ Hid (∀ j, (h : j < l.length) → j < k → l[j].v.may = true) ∧ Hid (B4 wr w.heap.size (.slice la l.length lc)) ∧ Below w.heap.size w wr) (fun Y _ => l.length - (intOf Y).toNat)
   case atStart => exact ⟨0, by omega, rfl, qq (fun j h h0 => jp h0 (by omega)), qq (B4.mk b0 rfl), E⟩
   case round =>
    clear c0 c1 c2 c3 c4 b0 E; obtain ⟨k, hk, rfl, af, bh, W⟩ := hrel; have c4 := bh.out.at; by_cases ab : k < l.length
    ·omega
    ·obtain rfl : k = l.length := by omega
     have A := qq (show G = true by rw [ad.out]; exact beu (fun j h => af.out j h h)); go_wp2; go_ret; exact ⟨by rw [A.out]; rfl, W⟩
  by_cases a1 : O = 160
  ·subst a1
   by_cases J : ks.length = 0
   rotate_left 1
   ·have K : 0 < ks.length := by omega
    have N : ks ≠ [] := fun e => by rw [e] at K; simp at K
    have A := qq (show G = false by rw [← H.out]; have h2 : ks.isEmpty = false := (by rw [Bool.eq_false_iff, ne_eq, List.isEmpty_iff]; exact N); unfold aaw; rw [h2]; simp); clear J N; go_enter func213, ntmps213; go_wp2; go_ret; exact ⟨by rw [A.out]; rfl, E⟩
   obtain rfl : ks = [] := List.length_eq_zero_iff.1 J; clear J; by_cases I : l.length = 0
   rotate_left 1
   ·have K : 0 < l.length := by omega
    have A := qq (show G = false by rw [← H.out]; have h3 : (l.length == 0) = false := ju.2 I; unfold aaw; rw [h3]; simp); clear I; go_enter func213, ntmps213; go_wp2; go_ret; exact ⟨by rw [A.out]; rfl, E⟩
   have ac := qq I; have ar : (l.length : Int) = 0 ∨ True := .inr trivial; clear ar I; have aq : ¬ 0 < l.length := by have := ac.out; omega
   have bn : decide (0 < l.length) = false := qg aq; by_cases F : D.size ≤ 4096
   rotate_left 1
   ·have ae : decide ((4096 : Int) < (D.size : Int)) = true := qp (by omega)
    have A := qq (show G = false by rw [← H.out]; rw [Bool.and_eq_false_iff]; left; rw [Bool.eq_false_iff]; intro e; rcases adg e with h | h | h | h | h | h | h | h <;> omega); clear F; go_enter func213, ntmps213; go_wp2; go_ret; exact ⟨by rw [A.out]; rfl, E⟩
   have ae : decide ((4096 : Int) < (D.size : Int)) = false := qg (by omega); have b6 : (D.size : Int) ≤ 4096 := by omega
   have X := qq F; clear F; by_cases U : Z = 0
   rotate_left 1
   ·have ai : (Z != 0) = true := bne_iff_ne.2 U
    have A := qq (show G = false by rw [← H.out]; simp [aaw, U]); go_enter func213, ntmps213; go_wp2; go_ret; exact ⟨by rw [A.out]; rfl, E⟩
   subst U; have ad := qq (show G = V.mayL (l.map VT.v) by rw [← H.out]; simp [aaw, ac.out, X.out]); go_enter func213, ntmps213; go_wp2; go_loopw [5] (fun Y wr => ∃ k : Nat, k ≤ l.length ∧ Y = .int .i64 k ∧ Hid (∀ j, (h : j < l.length) → j < k → l[j].v.may = true) ∧ Hid (B4 wr w.heap.size (.slice la l.length lc)) ∧ Below w.heap.size w wr) (fun Y _ => l.length - (intOf Y).toNat)
   case atStart => exact ⟨0, by omega, rfl, qq (fun j h h0 => jp h0 (by omega)), qq (B4.mk b0 rfl), E⟩
   case round =>
    clear c0 c1 c2 c3 c4 b0 E; obtain ⟨k, hk, rfl, af, bh, W⟩ := hrel; have c4 := bh.out.at; by_cases ab : k < l.length
    ·omega
    ·obtain rfl : k = l.length := by omega
     have A := qq (show G = true by rw [ad.out]; exact beu (fun j h => af.out j h h)); go_wp2; go_ret; exact ⟨by rw [A.out]; rfl, W⟩
  by_cases az : O = 169
  ·subst az
   by_cases J : ks.length = 0
   rotate_left 1
   ·have K : 0 < ks.length := by omega
    have N : ks ≠ [] := fun e => by rw [e] at K; simp at K
    have A := qq (show G = false by rw [← H.out]; have h2 : ks.isEmpty = false := (by rw [Bool.eq_false_iff, ne_eq, List.isEmpty_iff]; exact N); unfold aaw; rw [h2]; simp); clear J N; go_enter func213, ntmps213; go_wp2; go_ret; exact ⟨by rw [A.out]; rfl, E⟩
   obtain rfl : ks = [] := List.length_eq_zero_iff.1 J; clear J; by_cases F : D.size = 0
   rotate_left 1
   ·have M : D.toList.isEmpty = false := adh F
    have e2 : ¬ D.toList = [] := fun h => by rw [h] at M; cases M
    have A := qq (show G = false by rw [← H.out]; rw [Bool.and_eq_false_iff]; left; rw [Bool.eq_false_iff]; intro e; rcases adg e with h | h | h | h | h | h | h | h <;> omega); clear F; go_enter func213, ntmps213; go_wp2; go_ret; exact ⟨by rw [A.out]; rfl, E⟩
   have M : D.toList = [] := acs F; have aa : (D.size : Int) = 0 := by omega
   have ae : decide ((4096 : Int) < (D.size : Int)) = false := qg (by omega); have X := qq F; clear F aa; by_cases U : Z = 0
   rotate_left 1
   ·have ai : (Z != 0) = true := bne_iff_ne.2 U
    have A := qq (show G = false by rw [← H.out]; simp [aaw, U]); go_enter func213, ntmps213; go_wp2; go_ret; exact ⟨by rw [A.out]; rfl, E⟩
   subst U; have ad := qq (show G = V.mayL (l.map VT.v) by rw [← H.out]; simp [aaw, X.out]); go_enter func213, ntmps213; go_wp2; go_loopw [5] (fun Y wr => ∃ k : Nat, k ≤ l.length ∧ Y = .int .i64 k ∧ Hid (∀ j, (h : j < l.length) → j < k → l[j].v.may = true) ∧ Hid (B4 wr w.heap.size (.slice la l.length lc)) ∧ Below w.heap.size w wr) (fun Y _ => l.length - (intOf Y).toNat)
   case atStart => exact ⟨0, by omega, rfl, qq (fun j h h0 => jp h0 (by omega)), qq (B4.mk b0 rfl), E⟩
   case round =>
    clear c0 c1 c2 c3 c4 b0 E; obtain ⟨k, hk, rfl, af, bh, W⟩ := hrel; have c4 := bh.out.at; by_cases ab : k < l.length
    ·have h1 : (k : Int) < (l.length : Int) := by omega
     have am := hL.pure W; obtain ⟨g, off, rfl⟩ := am.addrB ab; have al := (bg.out l[k] (qy ab)).pure W; obtain ⟨xk, xn, xs, b3, b5, b4, b7, b2, bu, b1, xl, hx, q0, q1, q2, q3, q4⟩ := ae4 am ab al; have hi := bm.out l[k] (qy ab) P _ al; obtain ⟨r, hr⟩ := qx (l[k].v.may); rw [hr, hx, VT.arg_mk] at hi; have ak := qq hr; have an := qq hi; clear hi hr hx; cases r
     ·have A := qq (show G = false by rw [ad.out]; exact bga ab ak.out)
      go_wp2_with (go_at_call 213; (with_reducible refine an.out.mono ?_); rintro e w1 ⟨rfl, z⟩; have ag := W.trans (z.mono W.size)); go_ret; exact ⟨by rw [A.out]; rfl, ag⟩
     ·go_wp2_with (go_at_call 213; (with_reducible refine an.out.mono ?_); rintro e w1 ⟨rfl, z⟩; have ag := W.trans (z.mono W.size))
      go_roundw
      case rel => exact ⟨k + 1, by omega, by go_num, qq (fun j h h0 => by
       rcases Nat.lt_or_ge j k with h' | h'
       ·exact af.out j h h'
       ·obtain rfl : j = k := by omega
        exact ak.out), qq (bh.out.pure z), ag⟩
      case measure => simp [intOf]; omega
    ·obtain rfl : k = l.length := by omega
     have A := qq (show G = true by rw [ad.out]; exact beu (fun j h => af.out j h h)); go_wp2; go_ret; exact ⟨by rw [A.out]; rfl, W⟩
  by_cases ay : O = 149
  ·subst ay
   by_cases J : ks.length = 0
   rotate_left 1
   ·have K : 0 < ks.length := by omega
    have N : ks ≠ [] := fun e => by rw [e] at K; simp at K
    have A := qq (show G = false by rw [← H.out]; have h2 : ks.isEmpty = false := (by rw [Bool.eq_false_iff, ne_eq, List.isEmpty_iff]; exact N); unfold aaw; rw [h2]; simp); clear J N; go_enter func213, ntmps213; go_wp2; go_ret; exact ⟨by rw [A.out]; rfl, E⟩
   obtain rfl : ks = [] := List.length_eq_zero_iff.1 J; clear J; by_cases I : l.length = 0
   rotate_left 1
   ·have K : 0 < l.length := by omega
    have A := qq (show G = false by rw [← H.out]; have h3 : (l.length == 0) = false := ju.2 I; unfold aaw; rw [h3]; simp); clear I; go_enter func213, ntmps213; go_wp2; go_ret; exact ⟨by rw [A.out]; rfl, E⟩
   have ac := qq I; have ar : (l.length : Int) = 0 ∨ True := .inr trivial; clear ar I; have aq : ¬ 0 < l.length := by have := ac.out; omega
   have bn : decide (0 < l.length) = false := qg aq; by_cases F : D.size ≤ 4096
   rotate_left 1
   ·have ae : decide ((4096 : Int) < (D.size : Int)) = true := qp (by omega)
    have A := qq (show G = false by rw [← H.out]; rw [Bool.and_eq_false_iff]; left; rw [Bool.eq_false_iff]; intro e; rcases adg e with h | h | h | h | h | h | h | h <;> omega); clear F; go_enter func213, ntmps213; go_wp2; go_ret; exact ⟨by rw [A.out]; rfl, E⟩
   have ae : decide ((4096 : Int) < (D.size : Int)) = false := qg (by omega); have b6 : (D.size : Int) ≤ 4096 := by omega
   have X := qq F; clear F; have av := fun u => bfp D u (by omega)
   obtain ⟨u, hu⟩ := qx (u8s D); simp only [hu] at av; have bc := qq av; have aj := qq hu; clear av hu; cases u
   ·skip
    have A := qq (show G = false by rw [← H.out]; simp [aaw, aj.out, X.out]); go_enter func213, ntmps213; go_wp2_with (first | (go_at_call 219; refine (bc.out _).mono ?_; rintro e w1 ⟨rfl, rfl⟩)); go_ret; exact ⟨by rw [A.out]; rfl, E⟩
   by_cases U : Z = 0
   rotate_left 1
   ·have ai : (Z != 0) = true := bne_iff_ne.2 U
    have A := qq (show G = false by rw [← H.out]; simp [aaw, U]); go_enter func213, ntmps213; go_wp2_with (first | (go_at_call 219; refine (bc.out _).mono ?_; rintro e w1 ⟨rfl, rfl⟩)); go_ret; exact ⟨by rw [A.out]; rfl, E⟩
   subst U; have ad := qq (show G = V.mayL (l.map VT.v) by rw [← H.out]; simp [aaw, ac.out, X.out, aj.out]); go_enter func213, ntmps213; go_wp2_with (first | (go_at_call 219; refine (bc.out _).mono ?_; rintro e w1 ⟨rfl, rfl⟩)); go_loopw [5] (fun Y wr => ∃ k : Nat, k ≤ l.length ∧ Y = .int .i64 k ∧ Hid (∀ j, (h : j < l.length) → j < k → l[j].v.may = true) ∧ Hid (B4 wr w.heap.size (.slice la l.length lc)) ∧ Below w.heap.size w wr) (fun Y _ => l.length - (intOf Y).toNat)
   case atStart => exact ⟨0, by omega, rfl, qq (fun j h h0 => jp h0 (by omega)), qq (B4.mk b0 rfl), E⟩
   case round =>
    clear c0 c1 c2 c3 c4 b0 E; obtain ⟨k, hk, rfl, af, bh, W⟩ := hrel; have c4 := bh.out.at; by_cases ab : k < l.length
    ·omega
    ·obtain rfl : k = l.length := by omega
     have A := qq (show G = true by rw [ad.out]; exact beu (fun j h => af.out j h h)); go_wp2; go_ret; exact ⟨by rw [A.out]; rfl, W⟩
  by_cases au : O = 168
  ·subst au
   by_cases F : D.size = 0
   rotate_left 1
   ·have M : D.toList.isEmpty = false := adh F
    have e2 : ¬ D.toList = [] := fun h => by rw [h] at M; cases M
    have A := qq (show G = false by rw [← H.out]; rw [Bool.and_eq_false_iff]; left; rw [Bool.eq_false_iff]; intro e; rcases adg e with h | h | h | h | h | h | h | h <;> omega); clear F; go_enter func213, ntmps213; go_wp2; go_ret; exact ⟨by rw [A.out]; rfl, E⟩
   have M : D.toList = [] := acs F; have aa : (D.size : Int) = 0 := by omega
   have ae : decide ((4096 : Int) < (D.size : Int)) = false := qg (by omega); have X := qq F; clear F aa; by_cases ah : ks.length = l.length
   rotate_left 1
   ·have bp : (ks.length != l.length) = true := bne_iff_ne.2 ah
    have bt : ((ks.length : Int) != (l.length : Int)) = true := bne_iff_ne.2 (by omega); have A := qq (show G = false by rw [← H.out]; simp [aaw, ah]); go_enter func213, ntmps213; go_wp2; go_ret; exact ⟨by rw [A.out]; rfl, E⟩
   have bp : (ks.length != l.length) = false := by rw [ah]; simp
   have bt : ((ks.length : Int) != (l.length : Int)) = false := by rw [ah]; simp
   have bl := qq ah; have ax := bf9 _ ka kc ks bx bw; obtain ⟨u, hu⟩ := qx (ae1 ks); rw [hu] at ax; have bf := qq ax; have aj := qq hu; have bb := b0; clear ax hu ah; cases u
   ·skip
    have A := qq (show G = false by rw [← H.out]; simp [aaw, bl.out, aj.out]); go_enter func213, ntmps213; go_wp2_with (first | (go_at_call 220; refine bf.out.mono ?_; rintro e w1 ⟨rfl, z⟩; have ao := E.trans (z.mono E.size); have bk := bb.pure z; have f1 := bk.at 1 rfl; have f2 := bk.at 2 rfl; have f4 := bk.at 4 rfl)); go_ret; exact ⟨by rw [A.out]; rfl, ao⟩
   by_cases U : Z = 0
   rotate_left 1
   ·have ai : (Z != 0) = true := bne_iff_ne.2 U
    have A := qq (show G = false by rw [← H.out]; simp [aaw, U]); go_enter func213, ntmps213; go_wp2_with (first | (go_at_call 220; refine bf.out.mono ?_; rintro e w1 ⟨rfl, z⟩; have ao := E.trans (z.mono E.size); have bk := bb.pure z; have f1 := bk.at 1 rfl; have f2 := bk.at 2 rfl; have f4 := bk.at 4 rfl)); go_ret; exact ⟨by rw [A.out]; rfl, ao⟩
   subst U; have ad := qq (show G = V.mayL (l.map VT.v) by rw [← H.out]; simp [aaw, bl.out, X.out, aj.out]); go_enter func213, ntmps213; go_wp2_with (first | (go_at_call 220; refine bf.out.mono ?_; rintro e w1 ⟨rfl, z⟩; have ao := E.trans (z.mono E.size); have bk := bb.pure z; have f1 := bk.at 1 rfl; have f2 := bk.at 2 rfl; have f4 := bk.at 4 rfl)); go_loopw [5] (fun Y wr => ∃ k : Nat, k ≤ l.length ∧ Y = .int .i64 k ∧ Hid (∀ j, (h : j < l.length) → j < k → l[j].v.may = true) ∧ Hid (B4 wr w.heap.size (.slice la l.length lc)) ∧ Below w.heap.size w wr) (fun Y _ => l.length - (intOf Y).toNat)
   case atStart => exact ⟨0, by omega, rfl, qq (fun j h h0 => jp h0 (by omega)), qq (B4.mk bk rfl), ao⟩
   case round =>
    clear c0 c1 c2 c3 c4 b0 E; obtain ⟨k, hk, rfl, af, bh, W⟩ := hrel; have c4 := bh.out.at; by_cases ab : k < l.length
    ·have h1 : (k : Int) < (l.length : Int) := by omega
     have am := hL.pure W; obtain ⟨g, off, rfl⟩ := am.addrB ab; have al := (bg.out l[k] (qy ab)).pure W; obtain ⟨xk, xn, xs, b3, b5, b4, b7, b2, bu, b1, xl, hx, q0, q1, q2, q3, q4⟩ := ae4 am ab al; have hi := bm.out l[k] (qy ab) P _ al; obtain ⟨r, hr⟩ := qx (l[k].v.may); rw [hr, hx, VT.arg_mk] at hi; have ak := qq hr; have an := qq hi; clear hi hr hx; cases r
     ·have A := qq (show G = false by rw [ad.out]; exact bga ab ak.out)
      go_wp2_with (go_at_call 213; (with_reducible refine an.out.mono ?_); rintro e w1 ⟨rfl, z⟩; have ag := W.trans (z.mono W.size)); go_ret; exact ⟨by rw [A.out]; rfl, ag⟩
     ·go_wp2_with (go_at_call 213; (with_reducible refine an.out.mono ?_); rintro e w1 ⟨rfl, z⟩; have ag := W.trans (z.mono W.size))
      go_roundw
      case rel => exact ⟨k + 1, by omega, by go_num, qq (fun j h h0 => by
       rcases Nat.lt_or_ge j k with h' | h'
       ·exact af.out j h h'
       ·obtain rfl : j = k := by omega
        exact ak.out), qq (bh.out.pure z), ag⟩
      case measure => simp [intOf]; omega
    ·obtain rfl : k = l.length := by omega
     have A := qq (show G = true by rw [ad.out]; exact beu (fun j h => af.out j h h)); go_wp2; go_ret; exact ⟨by rw [A.out]; rfl, W⟩
  have br := qq (show aaw O Z D ks l.length = false from ay3 ⟨a0, q8, q2, ba, bd, ay, a1, au, az⟩ _ _ _ _); have ca : (O == 240) = false := ju.2 a0; have s8 : (O == 8) = false := ju.2 q8; have s2 : (O == 2) = false := ju.2 q2; have cg : (O == 49) = false := ju.2 ba; have cf : (O == 50) = false := ju.2 bd; have cd : (O == 149) = false := ju.2 ay; have b9 : (O == 160) = false := ju.2 a1; have bj : (O == 168) = false := ju.2 au; have bq : (O == 169) = false := ju.2 az; have r1 : (O != 168) = true := bne_iff_ne.2 au; by_cases J : ks.length = 0
  rotate_left 1
  ·have K : 0 < ks.length := by omega
   have N : ks ≠ [] := fun e => by rw [e] at K; simp at K
   have A := qq (show G = false by rw [← H.out]; have h2 : ks.isEmpty = false := (by rw [Bool.eq_false_iff, ne_eq, List.isEmpty_iff]; exact N); unfold aaw; rw [h2]; rw [bj]; simp); clear J N; go_enter func213, ntmps213; go_wp2; go_ret; exact ⟨by rw [A.out]; rfl, E⟩
  obtain rfl : ks = [] := List.length_eq_zero_iff.1 J; clear J; by_cases I : l.length = 0
  rotate_left 1
  ·have K : 0 < l.length := by omega
   have A := qq (show G = false by rw [← H.out]; have h3 : (l.length == 0) = false := ju.2 I; unfold aaw; rw [h3, bj, bq]; simp); clear I; go_enter func213, ntmps213; go_wp2; go_ret; exact ⟨by rw [A.out]; rfl, E⟩
  have ac := qq I; obtain rfl : l = [] := List.length_eq_zero_iff.1 I; clear I; by_cases F : D.size = 0
  rotate_left 1
  ·have M : D.toList.isEmpty = false := adh F
   have e2 : ¬ D.toList = [] := fun h => by rw [h] at M; cases M
   have A := qq (show G = false by rw [← H.out]; rw [Bool.and_eq_false_iff]; left; rw [Bool.eq_false_iff]; intro e; rcases adg e with h | h | h | h | h | h | h | h <;> omega); clear F; go_enter func213, ntmps213; go_wp2; go_ret; exact ⟨by rw [A.out]; rfl, E⟩
  have M : D.toList = [] := acs F; have aa : (D.size : Int) = 0 := by omega
  have ae : decide ((4096 : Int) < (D.size : Int)) = false := qg (by omega); have X := qq F; clear F aa; have A := qq (show G = false by rw [← H.out]; rw [br.out]; rfl); go_enter func213, ntmps213; go_wp2; go_ret; exact ⟨by rw [A.out]; rfl, E⟩
theorem ana {B : Nat} {w A : World} (h : Below B w A) : Upd (fun k => B ≤ k) w A := ⟨h.os, h.tape, h.output, h.size, fun k D hs => h.block k (by omega)⟩
theorem Rd.bel {B C : Nat} {w A : World} {t : VT} (h : Rd (· < B) w t) (D : Below C w A) (E : B ≤ C) : Rd (· < B) A t := h.upd (ana D) (fun b (F : b < B) (hs : C ≤ b) => by omega)
theorem Rd.here {P : Nat → Prop} {w : World} {t : VT} (h : Rd P w t) : Rd (· < w.heap.size) w t := h.weaken (fun b A _ => A)
theorem ai8 (m : Bool) (ks : List ByteArray) (l : List V) (k : Nat) (E : k < l.length) (D : m = true → k < ks.length) :
 V.bytesL m (ks.drop k) (l.drop k) = (if m then be 1 (ks.getD k ByteArray.empty).size ++ (ks.getD k ByteArray.empty).data.toList else []) ++ (l[k].bytes ++ V.bytesL m (ks.drop (k + 1)) (l.drop (k + 1))) := by
 rw [List.drop_eq_getElem_cons E]
 conv => lhs; unfold V.bytesL
 rw [List.tail_drop]
 cases m
 ·rfl
 ·have A := D rfl
  rw [List.drop_eq_getElem_cons A]; simp [List.getD, List.getElem?_eq_getElem A]
theorem bci {A E : Int} {D : ByteArray} {kv lv : Value} {ks : List ByteArray} {l : List VT} : (VT.mk A E D kv lv ks l).v.bytes = UInt8.ofNat A.toNat ::
 (if A = 8 ∨ A = 2 then be 1 E.toNat
  else if A = 49 ∨ A = 50 then be 8 E.toNat
  else if A = 149 then be 2 D.size ++ D.data.toList
  else if A = 160 then be 4 D.size ++ D.data.toList
  else if A = 240 then []
  else be 4 (4 + (V.bytesL (A == 168) ks (l.map VT.v)).length) ++ (be 4 l.length ++ V.bytesL (A == 168) ks (l.map VT.v))) := by
 rw [VT.v_eq]; conv => lhs; unfold V.bytes
 show UInt8.ofNat A.toNat :: (if A = 8 ∨ A = 2 then be 1 E.toNat else if A = 49 ∨ A = 50 then be 8 E.toNat else if A = 149 then be 2 D.size ++ D.data.toList else if A = 160 then be 4 D.size ++ D.data.toList else if A = 240 then [] else be 4 (4 + (V.bytesL (A == 168) ks (l.map VT.v)).length) ++ (be 4 (l.map VT.v).length ++ V.bytesL (A == 168) ks (l.map VT.v))) = _
 rw [jf]
theorem as9 (v : V) : 1 ≤ v.bytes.length := by cases v; unfold V.bytes; simp
theorem ai9 (m : Bool) : ∀ (l : List V) (ks : List ByteArray), l.length ≤ (V.bytesL m ks l).length
 | [], ks => by simp
 | x :: xs, ks => by
  unfold V.bytesL; have D := as9 x; have A := ai9 m xs ks.tail; rw [jz, jz, jn]; omega
theorem al9 {n : Nat} (h : Big n) : IntKind.u64.wrap (n : Int) = (n : Int) := bau _ (by omega) (by have := h.le; omega)
theorem ay5 (t : VT) : ∀ (B : Nat) (w : World) (bv : Value) (L : List UInt8), Rd (· < B) w t → Own B 5 1 aax w bv L → B ≤ w.heap.size → t.v.may = true → Big (L.length + t.v.bytes.length + 100) → Calls prog 194 #[bv, t.arg] w fun e w' => ∃ r, e = .returned r ∧ Own B 5 1 aax w' r (L ++ t.v.bytes) ∧ Below B w w' := by
 induction t using VT.ind with
 | h t ih =>
  intro B w bv L hR hb K cj b7; have cv := hR; obtain ⟨H, W, z, ka, kc, la, lc, ks, l, rfl, hK, hL, dp, dr⟩ := hR.open; rw [VT.arg_mk]; have c5 : ∀ x ∈ l, Rd (· < B) w x := hR.sub
  have cy : ∀ x ∈ l, ∀ (B : Nat) (w : World) (bv : Value) (L : List UInt8), Rd (· < B) w x → Own B 5 1 aax w bv L → B ≤ w.heap.size → x.v.may = true → Big (L.length + x.v.bytes.length + 100) → Calls prog 194 #[bv, x.arg] w fun e w' => ∃ r, e = .returned r ∧ Own B 5 1 aax w' r (L ++ x.v.bytes) ∧ Below B w w' := ih
  have cp := qq cy; have bp : 0 ≤ W := hR.n0; have cs := qq cv; rw [ayg, jj] at cj; obtain ⟨bw, cm⟩ := cj; have bt := @bci H W z (.slice ka ks.length kc) (.slice la l.length lc) ks l; obtain ⟨ac, ch⟩ := qx ((VT.mk H W z (.slice ka ks.length kc) (.slice la l.length lc) ks l).v.bytes); rw [ch] at bt b7 ⊢; have ad := qq bt; have A := qq b7; have ck := qq cm; clear ih cy c5 hR cv bt ch b7 cm; obtain ⟨ba, bn, bc, rfl⟩ := hb.shape3; have dh := (qz w.heap.size w).alloc (qj _) (.cells #[.int .u8 H, .int .u64 W, .string z, .slice ka ks.length kc, .slice la l.length lc] 56); have b0 := Blk.new w [.int .u8 H, .int .u64 W, .string z, .slice ka ks.length kc, .slice la l.length lc] 56; have dg := hb.alloc (.cells #[.int .u8 H, .int .u64 W, .string z, .slice ka ks.length kc, .slice la l.length lc] 56); have cu : Below B w (w.alloc (.cells #[.int .u8 H, .int .u64 W, .string z, .slice ka ks.length kc, .slice la l.length lc] 56)) := dh.mono K; have ag := cu.alloc (jk K cu.size) (.cells #[.int .u8 H] 5); have O := jk K ag.size; have b2 := b0.alloc (.cells #[.int .u8 H] 5); have ak := dg.alloc (.cells #[.int .u8 H] 5); have ai := qq (show ¬ (Value.slice ba bn bc).ownBlock = some w.heap.size from fun e => by have := hb.lt e; omega); have dl : w.heap.size + 2 ≤ ((w.alloc (.cells #[.int .u8 H, .int .u64 W, .string z, .slice ka ks.length kc, .slice la l.length lc] 56)).alloc (.cells #[.int .u8 H] 5)).heap.size := by simp
  have cl : H = 240 ∨ H = 8 ∨ H = 2 ∨ H = 49 ∨ H = 50 ∨ H = 149 ∨ H = 160 ∨ H = 168 ∨ H = 169 := by
   rcases adg bw with h | h | h | h | h | h | h | h <;> omega
  have cw : H = ((UInt8.ofNat H.toNat).toNat : Int) := by rcases cl with rfl | rfl | rfl | rfl | rfl | rfl | rfl | rfl | rfl <;> rfl
  have af := (Own.byte1 (w.alloc (.cells #[.int .u8 H, .int .u64 W, .string z, .slice ka ks.length kc, .slice la l.length lc] 56)) (UInt8.ofNat H.toNat) H cw (qj _)).slc aaa; rw [show (w.alloc (.cells #[.int .u8 H, .int .u64 W, .string z, .slice ka ks.length kc, .slice la l.length lc] 56)).heap.size = w.heap.size + 1 by simp] at af; clear cw cl; have dc := adg bw; clear bw; rcases dc with h | h | h | h | h | h | h | h
  ·obtain ⟨rfl, -⟩ := h
   have X := qq (show L ++ ac = L ++ [UInt8.ofNat (240 : Int).toNat] by rw [ad.out]; simp); go_enter func194, ntmps194; go_wp2_with (first | (at_builtin; refine aaj (base := B) rfl (.tmp 8) (.tmp 11) 189 5 rfl abx aaa aay _ L rfl ak _ [UInt8.ofNat (240 : Int).toNat] rfl af (by have := A.out.le; simp; unfold maxLen; omega) (by have := A.out.le; simp; omega) O ?_; intro v3 U G F al am; obtain ⟨va, vn, vc, rfl⟩ := G.shape3; have Z := Upd.grown (S := fun j => (Value.slice ba bn bc).ownBlock = some j) F (fun j e => e); have J := b2.upd Z ai.out; obtain ⟨c0, c1, c2, c3, c4⟩ := J.a5; have D := ag.grown F O (fun j e => hb.ge e))); go_ret; exact ⟨_, rfl, by rw [X.out]; exact G, D⟩
  ·obtain ⟨rfl, -⟩ := h
   have X := qq (show L ++ ac = (L ++ [UInt8.ofNat (8 : Int).toNat]) ++ be 1 W.toNat by rw [ad.out]; simp); go_enter func194, ntmps194; go_wp2_with (first | (at_builtin; refine aaj (base := B) rfl (.tmp 8) (.tmp 11) 189 5 rfl abx aaa aay _ L rfl ak _ [UInt8.ofNat (8 : Int).toNat] rfl af (by have := A.out.le; simp; unfold maxLen; omega) (by have := A.out.le; simp; omega) O ?_; intro v3 U G F al am; obtain ⟨va, vn, vc, rfl⟩ := G.shape3; have Z := Upd.grown (S := fun j => (Value.slice ba bn bc).ownBlock = some j) F (fun j e => e); have J := b2.upd Z ai.out; obtain ⟨c0, c1, c2, c3, c4⟩ := J.a5; have D := ag.grown F O (fun j e => hb.ge e)) | (go_at_call 163; refine (acg _ _ (L ++ [UInt8.ofNat (8 : Int).toNat]) W 1 (G.slc aaa) bp (by unfold Wd; omega) (by rw [jz]; exact A.out.mono (by simp; omega))).mono ?_; rintro e w4 ⟨r4, rfl, E, M⟩)); go_ret; exact ⟨_, rfl, by rw [X.out]; exact E.rebase (fun i hi => jk (jk K D.size) (E.ge hi)), D.trans (M.mono (jk K D.size))⟩
  ·obtain ⟨rfl, -⟩ := h
   have X := qq (show L ++ ac = (L ++ [UInt8.ofNat (2 : Int).toNat]) ++ be 1 W.toNat by rw [ad.out]; simp); go_enter func194, ntmps194; go_wp2_with (first | (at_builtin; refine aaj (base := B) rfl (.tmp 8) (.tmp 11) 189 5 rfl abx aaa aay _ L rfl ak _ [UInt8.ofNat (2 : Int).toNat] rfl af (by have := A.out.le; simp; unfold maxLen; omega) (by have := A.out.le; simp; omega) O ?_; intro v3 U G F al am; obtain ⟨va, vn, vc, rfl⟩ := G.shape3; have Z := Upd.grown (S := fun j => (Value.slice ba bn bc).ownBlock = some j) F (fun j e => e); have J := b2.upd Z ai.out; obtain ⟨c0, c1, c2, c3, c4⟩ := J.a5; have D := ag.grown F O (fun j e => hb.ge e)) | (go_at_call 163; refine (acg _ _ (L ++ [UInt8.ofNat (2 : Int).toNat]) W 1 (G.slc aaa) bp (by unfold Wd; omega) (by rw [jz]; exact A.out.mono (by simp; omega))).mono ?_; rintro e w4 ⟨r4, rfl, E, M⟩)); go_ret; exact ⟨_, rfl, by rw [X.out]; exact E.rebase (fun i hi => jk (jk K D.size) (E.ge hi)), D.trans (M.mono (jk K D.size))⟩
  ·obtain ⟨hk, -⟩ := h
   rcases hk with rfl | rfl
   ·skip
    have X := qq (show L ++ ac = (L ++ [UInt8.ofNat (49 : Int).toNat]) ++ be 8 W.toNat by rw [ad.out]; simp); go_enter func194, ntmps194; go_wp2_with (first | (at_builtin; refine aaj (base := B) rfl (.tmp 8) (.tmp 11) 189 5 rfl abx aaa aay _ L rfl ak _ [UInt8.ofNat (49 : Int).toNat] rfl af (by have := A.out.le; simp; unfold maxLen; omega) (by have := A.out.le; simp; omega) O ?_; intro v3 U G F al am; obtain ⟨va, vn, vc, rfl⟩ := G.shape3; have Z := Upd.grown (S := fun j => (Value.slice ba bn bc).ownBlock = some j) F (fun j e => e); have J := b2.upd Z ai.out; obtain ⟨c0, c1, c2, c3, c4⟩ := J.a5; have D := ag.grown F O (fun j e => hb.ge e)) | (go_at_call 163; refine (acg _ _ (L ++ [UInt8.ofNat (49 : Int).toNat]) W 8 (G.slc aaa) bp (by unfold Wd; omega) (by rw [jz]; exact A.out.mono (by simp; omega))).mono ?_; rintro e w4 ⟨r4, rfl, E, M⟩)); go_ret; exact ⟨_, rfl, by rw [X.out]; exact E.rebase (fun i hi => jk (jk K D.size) (E.ge hi)), D.trans (M.mono (jk K D.size))⟩
   ·skip
    have X := qq (show L ++ ac = (L ++ [UInt8.ofNat (50 : Int).toNat]) ++ be 8 W.toNat by rw [ad.out]; simp); go_enter func194, ntmps194; go_wp2_with (first | (at_builtin; refine aaj (base := B) rfl (.tmp 8) (.tmp 11) 189 5 rfl abx aaa aay _ L rfl ak _ [UInt8.ofNat (50 : Int).toNat] rfl af (by have := A.out.le; simp; unfold maxLen; omega) (by have := A.out.le; simp; omega) O ?_; intro v3 U G F al am; obtain ⟨va, vn, vc, rfl⟩ := G.shape3; have Z := Upd.grown (S := fun j => (Value.slice ba bn bc).ownBlock = some j) F (fun j e => e); have J := b2.upd Z ai.out; obtain ⟨c0, c1, c2, c3, c4⟩ := J.a5; have D := ag.grown F O (fun j e => hb.ge e)) | (go_at_call 163; refine (acg _ _ (L ++ [UInt8.ofNat (50 : Int).toNat]) W 8 (G.slc aaa) bp (by unfold Wd; omega) (by rw [jz]; exact A.out.mono (by simp; omega))).mono ?_; rintro e w4 ⟨r4, rfl, E, M⟩)); go_ret; exact ⟨_, rfl, by rw [X.out]; exact E.rebase (fun i hi => jk (jk K D.size) (E.ge hi)), D.trans (M.mono (jk K D.size))⟩
  ·obtain ⟨rfl, -, bi, -⟩ := h
   have X := qq (show L ++ ac = (L ++ [UInt8.ofNat (149 : Int).toNat]) ++ (be 2 z.size ++ z.data.toList) by rw [ad.out]; simp); have N := qq (show ac.length = 1 + 2 + z.size by rw [ad.out]; simp [aao, acj]; omega); have b4 := qq bi; clear bi; go_enter func194, ntmps194; go_wp2_with (first | (at_builtin; refine aaj (base := B) rfl (.tmp 8) (.tmp 11) 189 5 rfl abx aaa aay _ L rfl ak _ [UInt8.ofNat (149 : Int).toNat] rfl af (by have := A.out.le; simp; unfold maxLen; omega) (by have := A.out.le; simp; omega) O ?_; intro v3 U G F al am; obtain ⟨va, vn, vc, rfl⟩ := G.shape3; have Z := Upd.grown (S := fun j => (Value.slice ba bn bc).ownBlock = some j) F (fun j e => e); have J := b2.upd Z ai.out; obtain ⟨c0, c1, c2, c3, c4⟩ := J.a5; have D := ag.grown F O (fun j e => hb.ge e)) | (go_at_call 164; refine (adz _ _ (L ++ [UInt8.ofNat (149 : Int).toNat]) z 2 (G.slc aaa) (by omega) (by have := b4.out; omega) (A.out.mono (by have := N.out; simp; omega))).mono ?_; rintro e w4 ⟨r4, rfl, E, M⟩)); go_ret; exact ⟨_, rfl, by rw [X.out]; exact E.rebase (fun i hi => jk (jk K D.size) (E.ge hi)), D.trans (M.mono (jk K D.size))⟩
  ·obtain ⟨rfl, -, bi, -⟩ := h
   have X := qq (show L ++ ac = (L ++ [UInt8.ofNat (160 : Int).toNat]) ++ (be 4 z.size ++ z.data.toList) by rw [ad.out]; simp); have N := qq (show ac.length = 1 + 4 + z.size by rw [ad.out]; simp [aao, acj]; omega); have b4 := qq bi; clear bi; go_enter func194, ntmps194; go_wp2_with (first | (at_builtin; refine aaj (base := B) rfl (.tmp 8) (.tmp 11) 189 5 rfl abx aaa aay _ L rfl ak _ [UInt8.ofNat (160 : Int).toNat] rfl af (by have := A.out.le; simp; unfold maxLen; omega) (by have := A.out.le; simp; omega) O ?_; intro v3 U G F al am; obtain ⟨va, vn, vc, rfl⟩ := G.shape3; have Z := Upd.grown (S := fun j => (Value.slice ba bn bc).ownBlock = some j) F (fun j e => e); have J := b2.upd Z ai.out; obtain ⟨c0, c1, c2, c3, c4⟩ := J.a5; have D := ag.grown F O (fun j e => hb.ge e)) | (go_at_call 164; refine (adz _ _ (L ++ [UInt8.ofNat (160 : Int).toNat]) z 4 (G.slc aaa) (by omega) (by have := b4.out; omega) (A.out.mono (by have := N.out; simp; omega))).mono ?_; rintro e w4 ⟨r4, rfl, E, M⟩)); go_ret; exact ⟨_, rfl, by rw [X.out]; exact E.rebase (fun i hi => jk (jk K D.size) (E.ge hi)), D.trans (M.mono (jk K D.size))⟩
  ·obtain ⟨rfl, -, -, co, cx⟩ := h
   have cz := qq (ahd cx); have ci := qq co; clear cx co; obtain ⟨aa, ae⟩ := qx (be 4 l.length ++ V.bytesL true ks (l.map VT.v)); have X := qq (show L ++ ac = (L ++ [UInt8.ofNat (168 : Int).toNat]) ++ be 4 aa.length ++ aa by rw [ad.out, ← ae]; simp [aao]); have N := qq (show ac.length = 5 + aa.length by rw [ad.out, ← ae]; simp [aao]; omega); have b6 := qq ae
   have cb := qq (show l.length ≤ aa.length by
    rw [← ae, jz]; have := ai9 true (l.map VT.v) ks
    rw [jf] at this; omega)
   have di : IntKind.u64.wrap (l.length : Int) = (l.length : Int) := al9 (A.out.mono (by have := cb.out; have := N.out; omega)); clear ae; go_enter func194, ntmps194; go_wp2_with (first | (at_builtin; refine aaj (base := B) rfl (.tmp 8) (.tmp 11) 189 5 rfl abx aaa aay _ L rfl ak _ [UInt8.ofNat (168 : Int).toNat] rfl af (by have := A.out.le; simp; unfold maxLen; omega) (by have := A.out.le; simp; omega) O ?_; intro v3 U G F al am; obtain ⟨va, vn, vc, rfl⟩ := G.shape3; have Z := Upd.grown (S := fun j => (Value.slice ba bn bc).ownBlock = some j) F (fun j e => e); have J := b2.upd Z ai.out; obtain ⟨c0, c1, c2, c3, c4⟩ := J.a5; have D := ag.grown F O (fun j e => hb.ge e)) | (go_at_call 163; refine (acg _ _ [] (l.length : Int) 4 Slc.nil0 (by omega) (by unfold Wd; omega) (by unfold Big; simp)).mono ?_; rintro e w4 ⟨r4, rfl, E, M⟩; rw [Int.toNat_natCast, List.nil_append] at E; obtain ⟨ra, rn, rc, rfl⟩ := E.shape3; have k4 := J.pure M; clear c0 c1 c2 c3 c4; have c0 := k4.at 0 rfl; have c4 := k4.at 4 rfl)); have c9 := J.lt; go_loopw [5, 58] (fun s5 aw wr => ∃ (k : Nat) (I : List UInt8), k ≤ l.length ∧ aw = .int .i64 k ∧ Own U.heap.size 5 1 aax wr s5 I ∧ Hid (I ++ V.bytesL true (ks.drop k) ((l.map VT.v).drop k) = aa) ∧ Below U.heap.size U wr) (fun _ aw _ => l.length - (intOf aw).toNat)
   case atStart => exact ⟨0, be 4 l.length, by omega, rfl, E, qq b6.out, M⟩
   case round =>
    clear c0 c4 k4 E M; obtain ⟨k, I, hk, rfl, hO, an, hB⟩ := hrel; obtain ⟨ia, ic, rfl⟩ := aap hO; have ah := qq (show I.length + (V.bytesL true (ks.drop k) ((l.map VT.v).drop k)).length = aa.length by rw [← an.out, jz]); have kr := J.pure hB; have c0 := kr.at 0 rfl; have au := D.trans (hB.mono (jk K D.size)); have ax := cs.out.bel au (qj _); by_cases Y : k < l.length
    ·have bg : Slc ac6 5 wr (.slice la l.length lc) l := ax.lv
     have h1 : (k : Int) < (l.length : Int) := by omega
     obtain ⟨g, off, rfl⟩ := bg.addrB Y; have ar := ax.sub l[k] (qy Y); obtain ⟨xk, xn, xs, bf, bj, bh, bk, bd, a0, de, xl, hx, q0, q1, q2, q3, q4⟩ := ae4 bg Y ar; have ab := (qz wr.heap.size wr).alloc (qj _) (.cells #[.int .u8 xk, .int .u64 xn, .string xs, .slice bf bj bh, .slice bk bd a0] 56); have be_ := Blk.new wr [.int .u8 xk, .int .u64 xn, .string xs, .slice bf bj bh, .slice bk bd a0] 56; have cg := hO.pure ab; have bl := ar.pure ab; have ao := agw ck.out l[k].v (jv.2 ⟨_, qy Y, rfl⟩); have bx := qq (ai8 true ks (l.map VT.v) k (by simpa using Y) (fun h => by rw [ci.out]; exact Y)); have hi := cp.out l[k] (qy Y) U.heap.size; have ay : (l.map VT.v)[k]'(by simpa using Y) = l[k].v := by rw [zq]
     obtain ⟨xb, av⟩ := qx (l[k].v.bytes); have az := qq (show V.bytesL true (ks.drop k) ((l.map VT.v).drop k) = _ from by rw [bx.out, ay, av]); rw [av] at hi; rw [hx] at hi bl ao; rw [VT.arg_mk] at hi; have cd := qq hi; have b5 := qq ao; have b9 := jk K D.size; clear hi hx ao av ay ar; have bq : k < ks.length := by rw [ci.out]; exact Y
     have cq : Slc abv 1 wr (.slice ka ks.length kc) ks := ax.kv; obtain ⟨kg, dm, rfl⟩ := cq.addrB bq; have kq := (cq.pure ab).get k bq 0 _ rfl; rw [Nat.mul_one, Nat.add_zero] at kq; obtain ⟨kx, bo⟩ := qx (ks[k]); have df := qq (show 1 ≤ kx.size ∧ kx.size ≤ 255 by rw [← bo]; exact cz.out _ (qy bq)); have ct := qq (show ks.getD k ByteArray.empty = kx by rw [← bo]; simp [List.getD, List.getElem?_eq_getElem bq]); have bm := qq (show (V.bytesL true (ks.drop k) ((l.map VT.v).drop k)).length = 1 + kx.size + (xb.length + (V.bytesL true (ks.drop (k + 1)) ((l.map VT.v).drop (k + 1))).length) by rw [az.out, ct.out]; simp only [↓reduceIte, jz, aao, acj]); rw [bo] at kq; have dn : (k : Int) < (ks.length : Int) := by omega
     clear bo; obtain ⟨e0, e1, e2, e3, e4⟩ := be_.a5; have cn := kr.pure ab; have dd := cn.at 0 rfl; have dq := cn.at 3 rfl; go_wp2_with (first | (go_at_call 164; refine (adz _ _ I kx 1 (cg.slc aaa) (by omega) (by have := df.out; omega) (A.out.mono (by have := ah.out; have := N.out; have := bm.out; omega))).mono ?_; rintro e w5 ⟨r5, rfl, cr, br⟩; have db := be_.pure br; clear e0 e1 e2 e3 e4; obtain ⟨e0, e1, e2, e3, e4⟩ := db.a5; have da := (bl.pure br).weaken (Q := fun b => b < U.heap.size) (fun b _ hb => jg hb b9); have c8 := cr.rebase (b' := U.heap.size) (fun i hi => jk (jk hB.size ab.size) (cr.ge hi)); have dk := jk (jk hB.size ab.size) br.size) | (go_at_call 194; refine (cd.out _ _ (I ++ (be 1 kx.size ++ kx.data.toList)) da c8 dk b5.out (A.out.mono (by have := ah.out; have := N.out; have := bm.out; simp [aao, acj]; omega))).mono ?_; rintro e w6 ⟨r6, rfl, ce, cc⟩)); go_roundw
     case rel => exact ⟨k + 1, (I ++ (be 1 kx.size ++ kx.data.toList)) ++ xb, by omega, by go_num, ce, qq (by rw [← an.out, az.out, ct.out]; simp), hB.trans (((ab.mono hB.size).trans (br.mono (jk hB.size ab.size))).trans cc)⟩
     case measure => simp [intOf]; omega
    ·obtain rfl : k = l.length := by omega
     have bu := qq (show I = aa by have e : (l.map VT.v).drop l.length = [] := List.drop_eq_nil_of_le (by simp); have := an.out; rw [e] at this; unfold V.bytesL at this; rw [List.append_nil] at this; exact this); have dj : IntKind.u64.wrap (I.length : Int) = (I.length : Int) := al9 (A.out.mono (by have := ah.out; have := N.out; omega)); have ca := G.pure hB; have cf := hO; go_wp2_with (first | (go_at_call 163; refine (acg _ _ (L ++ [UInt8.ofNat (168 : Int).toNat]) (I.length : Int) 4 (ca.slc aaa) (by omega) (by unfold Wd; omega) (A.out.mono (by have := N.out; simp; omega))).mono ?_; rintro e w7 ⟨r7, rfl, aq, aj⟩; have b1 := cf.pure aj; rw [Int.toNat_natCast] at aq) | (at_builtin; refine aaj (base := wr.heap.size) rfl (.tmp 84) (.tmp 85) 189 5 rfl abx aaa aay r7 _ rfl aq _ I rfl (b1.slc aaa) (by have := A.out.le; have := N.out; have := ah.out; simp [aao]; unfold maxLen; omega) (by have := A.out.le; have := N.out; have := ah.out; simp [aao]; omega) aj.size ?_; intro v8 w8 bb b3 c6 c7; have b8 := aj.grown b3 aj.size (fun j e => aq.ge e))); go_ret; have a1 : B ≤ wr.heap.size := jk K au.size; exact ⟨_, rfl, by rw [X.out, ← bu.out]; exact bb.rebase (fun i hi => jk a1 (bb.ge hi)), au.trans (b8.mono a1)⟩
  ·obtain ⟨rfl, -, -, rfl⟩ := h
   obtain ⟨aa, ae⟩ := qx (be 4 l.length ++ V.bytesL false ([] : List ByteArray) (l.map VT.v)); have X := qq (show L ++ ac = (L ++ [UInt8.ofNat (169 : Int).toNat]) ++ be 4 aa.length ++ aa by rw [ad.out, ← ae]; simp [aao]); have N := qq (show ac.length = 5 + aa.length by rw [ad.out, ← ae]; simp [aao]; omega); have b6 := qq ae
   have cb := qq (show l.length ≤ aa.length by
    rw [← ae, jz]; have := ai9 false (l.map VT.v) ([] : List ByteArray)
    rw [jf] at this; omega)
   have di : IntKind.u64.wrap (l.length : Int) = (l.length : Int) := al9 (A.out.mono (by have := cb.out; have := N.out; omega)); clear ae; go_enter func194, ntmps194; go_wp2_with (first | (at_builtin; refine aaj (base := B) rfl (.tmp 8) (.tmp 11) 189 5 rfl abx aaa aay _ L rfl ak _ [UInt8.ofNat (169 : Int).toNat] rfl af (by have := A.out.le; simp; unfold maxLen; omega) (by have := A.out.le; simp; omega) O ?_; intro v3 U G F al am; obtain ⟨va, vn, vc, rfl⟩ := G.shape3; have Z := Upd.grown (S := fun j => (Value.slice ba bn bc).ownBlock = some j) F (fun j e => e); have J := b2.upd Z ai.out; obtain ⟨c0, c1, c2, c3, c4⟩ := J.a5; have D := ag.grown F O (fun j e => hb.ge e)) | (go_at_call 163; refine (acg _ _ [] (l.length : Int) 4 Slc.nil0 (by omega) (by unfold Wd; omega) (by unfold Big; simp)).mono ?_; rintro e w4 ⟨r4, rfl, E, M⟩; rw [Int.toNat_natCast, List.nil_append] at E; obtain ⟨ra, rn, rc, rfl⟩ := E.shape3; have k4 := J.pure M; clear c0 c1 c2 c3 c4; have c0 := k4.at 0 rfl; have c4 := k4.at 4 rfl)); have c9 := J.lt; go_loopw [5, 58] (fun s5 aw wr => ∃ (k : Nat) (I : List UInt8), k ≤ l.length ∧ aw = .int .i64 k ∧ Own U.heap.size 5 1 aax wr s5 I ∧ Hid (I ++ V.bytesL false (([] : List ByteArray).drop k) ((l.map VT.v).drop k) = aa) ∧ Below U.heap.size U wr) (fun _ aw _ => l.length - (intOf aw).toNat)
   case atStart => exact ⟨0, be 4 l.length, by omega, rfl, E, qq b6.out, M⟩
   case round =>
    clear c0 c4 k4 E M; obtain ⟨k, I, hk, rfl, hO, an, hB⟩ := hrel; obtain ⟨ia, ic, rfl⟩ := aap hO; have ah := qq (show I.length + (V.bytesL false (([] : List ByteArray).drop k) ((l.map VT.v).drop k)).length = aa.length by rw [← an.out, jz]); have kr := J.pure hB; have c0 := kr.at 0 rfl; have au := D.trans (hB.mono (jk K D.size)); have ax := cs.out.bel au (qj _); by_cases Y : k < l.length
    ·have bg : Slc ac6 5 wr (.slice la l.length lc) l := ax.lv
     have h1 : (k : Int) < (l.length : Int) := by omega
     obtain ⟨g, off, rfl⟩ := bg.addrB Y; have ar := ax.sub l[k] (qy Y); obtain ⟨xk, xn, xs, bf, bj, bh, bk, bd, a0, de, xl, hx, q0, q1, q2, q3, q4⟩ := ae4 bg Y ar; have ab := (qz wr.heap.size wr).alloc (qj _) (.cells #[.int .u8 xk, .int .u64 xn, .string xs, .slice bf bj bh, .slice bk bd a0] 56); have be_ := Blk.new wr [.int .u8 xk, .int .u64 xn, .string xs, .slice bf bj bh, .slice bk bd a0] 56; have cg := hO.pure ab; have bl := ar.pure ab; have ao := agw ck.out l[k].v (jv.2 ⟨_, qy Y, rfl⟩); have bx := qq (ai8 false ([] : List ByteArray) (l.map VT.v) k (by simpa using Y) (fun h => jp h (by simp))); have hi := cp.out l[k] (qy Y) U.heap.size; have ay : (l.map VT.v)[k]'(by simpa using Y) = l[k].v := by rw [zq]
     obtain ⟨xb, av⟩ := qx (l[k].v.bytes); have az := qq (show V.bytesL false (([] : List ByteArray).drop k) ((l.map VT.v).drop k) = _ from by rw [bx.out, ay, av]); rw [av] at hi; rw [hx] at hi bl ao; rw [VT.arg_mk] at hi; have cd := qq hi; have b5 := qq ao; have b9 := jk K D.size; clear hi hx ao av ay ar; have bm := qq (show (V.bytesL false (([] : List ByteArray).drop k) ((l.map VT.v).drop k)).length = xb.length + (V.bytesL false (([] : List ByteArray).drop (k + 1)) ((l.map VT.v).drop (k + 1))).length by rw [az.out]; simp); obtain ⟨e0, e1, e2, e3, e4⟩ := be_.a5; have dd := (kr.pure ab).at 0 rfl; go_wp2_with (first | (go_at_call 194; refine (cd.out _ _ I (bl.weaken (fun b _ hb => jg hb b9)) cg (jk hB.size ab.size) b5.out (A.out.mono (by have := ah.out; have := N.out; have := bm.out; omega))).mono ?_; rintro e w6 ⟨r6, rfl, ce, cc⟩)); go_roundw
     case rel => exact ⟨k + 1, I ++ xb, by omega, by go_num, ce, qq (by rw [← an.out, az.out]; simp), hB.trans ((ab.mono hB.size).trans cc)⟩
     case measure => simp [intOf]; omega
    ·obtain rfl : k = l.length := by omega
     have bu := qq (show I = aa by have e : (l.map VT.v).drop l.length = [] := List.drop_eq_nil_of_le (by simp); have := an.out; rw [e] at this; unfold V.bytesL at this; rw [List.append_nil] at this; exact this); have dj : IntKind.u64.wrap (I.length : Int) = (I.length : Int) := al9 (A.out.mono (by have := ah.out; have := N.out; omega)); have ca := G.pure hB; have cf := hO; go_wp2_with (first | (go_at_call 163; refine (acg _ _ (L ++ [UInt8.ofNat (169 : Int).toNat]) (I.length : Int) 4 (ca.slc aaa) (by omega) (by unfold Wd; omega) (A.out.mono (by have := N.out; simp; omega))).mono ?_; rintro e w7 ⟨r7, rfl, aq, aj⟩; have b1 := cf.pure aj; rw [Int.toNat_natCast] at aq) | (at_builtin; refine aaj (base := wr.heap.size) rfl (.tmp 84) (.tmp 85) 189 5 rfl abx aaa aay r7 _ rfl aq _ I rfl (b1.slc aaa) (by have := A.out.le; have := N.out; have := ah.out; simp [aao]; unfold maxLen; omega) (by have := A.out.le; have := N.out; have := ah.out; simp [aao]; omega) aj.size ?_; intro v8 w8 bb b3 c6 c7; have b8 := aj.grown b3 aj.size (fun j e => aq.ge e))); go_ret; have a1 : B ≤ wr.heap.size := jk K au.size; exact ⟨_, rfl, by rw [X.out, ← bu.out]; exact bb.rebase (fun i hi => jk a1 (bb.ge hi)), au.trans (b8.mono a1)⟩
theorem aja {P : Prop} (h : P := by
 clear hch
 go_enter func190, ntmps190
 go_wp2_with (first | (go_at_call 208; (refine (hdh.out _ hB00).mono ?_); rintro e w1 ⟨rfl, hB1⟩; have k1 := b0.pure hB1; obtain ⟨c0, c1, c2, c3, c4⟩ := k1.a5; have hB01 := hB0.trans (hB1.mono hB0.size)) | (go_at_call 209; (refine (hch2.out _ hB1).mono ?_); rintro e w2 ⟨rfl, hB2⟩; have k2 := k1.pure hB2; clear c0 c1 c2 c3 c4; obtain ⟨c0, c1, c2, c3, c4⟩ := k2.a5; have hB02 := hB1.trans (hB2.mono hB1.size); have hB03 := hB01.trans (hB2.mono hB01.size)) | (go_at_call 210; (refine (hmh.out _ hB02).mono ?_); rintro e w3 ⟨rfl, hB3⟩; have hB04 := hB03.trans (hB3.mono hB03.size)))
 go_ret
 exact ⟨by rw [hres.out]; rfl, hB04⟩) : P := h
theorem ajb (t : VT) (P : Nat → Prop) (w : World) (U : Rd P w t) (Y : Tb w) :
 Calls prog 190 #[t.arg] w fun e X => e = .returned (.int .i64 t.v.chk) ∧ Below w.heap.size w X := by
 obtain ⟨D, G, H, F, E, I, A, ks, l, rfl, hK, hL, Z, aa⟩ := U.open
 have hB0 := (qz w.heap.size w).alloc (qj _) (.cells #[.int .u8 D, .int .u64 G, .string H, .slice F ks.length E, .slice I l.length A] 56)
 have b0 := Blk.new w [.int .u8 D, .int .u64 G, .string H, .slice F ks.length E, .slice I l.length A] 56
 have N := U.pure hB0
 have W := qq (Y.pure hB0)
 have hd0 := fun (u : World) (J : Below (w.alloc (.cells #[.int .u8 D, .int .u64 G, .string H, .slice F ks.length E, .slice I l.length A] 56)).heap.size (w.alloc (.cells #[.int .u8 D, .int .u64 G, .string H, .slice F ks.length E, .slice I l.length A] 56)) u) => as8 _ P u 6 (N.pure J) (by omega)
 have M := fun (u : World) (J : Below (w.alloc (.cells #[.int .u8 D, .int .u64 G, .string H, .slice F ks.length E, .slice I l.length A] 56)).heap.size (w.alloc (.cells #[.int .u8 D, .int .u64 G, .string H, .slice F ks.length E, .slice I l.length A] 56)) u) => as5 _ P u 200 (N.pure J) (by omega) (by omega)
 have K := fun (u : World) (J : Below (w.alloc (.cells #[.int .u8 D, .int .u64 G, .string H, .slice F ks.length E, .slice I l.length A] 56)).heap.size (w.alloc (.cells #[.int .u8 D, .int .u64 G, .string H, .slice F ks.length E, .slice I l.length A] 56)) u) => ay4 _ P u (N.pure J) (W.out.pure J)
 have hch : (VT.mk D G H (.slice F ks.length E) (.slice I l.length A) ks l).v.chk = (if (VT.mk D G H (.slice F ks.length E) (.slice I l.length A) ks l).v.deep 6 then 51 else if (VT.mk D G H (.slice F ks.length E) (.slice I l.length A) ks l).v.cnt 200 < 0 then 3 else if (VT.mk D G H (.slice F ks.length E) (.slice I l.length A) ks l).v.may then 0 else 50) := rfl
 generalize (VT.mk D G H (.slice F ks.length E) (.slice I l.length A) ks l).v.deep 6 = d at hd0 hch
 generalize (VT.mk D G H (.slice F ks.length E) (.slice I l.length A) ks l).v.cnt 200 = c at M hch
 generalize (VT.mk D G H (.slice F ks.length E) (.slice I l.length A) ks l).v.may = m at K hch
 generalize (VT.mk D G H (.slice F ks.length E) (.slice I l.length A) ks l).v.chk = r at hch ⊢
 simp only [VT.arg_mk] at hd0 M K ⊢
 have hdh := qq hd0
 have hch2 := qq M
 have hmh := qq K
 have hB00 := qz (w.alloc (.cells #[.int .u8 D, .int .u64 G, .string H, .slice F ks.length E, .slice I l.length A] 56)).heap.size (w.alloc (.cells #[.int .u8 D, .int .u64 G, .string H, .slice F ks.length E, .slice I l.length A] 56))
 clear hd0 M K N
 cases d
 rotate_left 1
 ·skip
  have hres := qq (show r = 51 by rw [hch]; simp); clear hch; go_enter func190, ntmps190; go_wp2_with (first | (go_at_call 208; (refine (hdh.out _ hB00).mono ?_); rintro e w1 ⟨rfl, hB1⟩; have k1 := b0.pure hB1; obtain ⟨c0, c1, c2, c3, c4⟩ := k1.a5; have hB01 := hB0.trans (hB1.mono hB0.size))); go_ret; exact ⟨by rw [hres.out]; rfl, hB01⟩
 by_cases O : c < 0
 ·skip
  have hres := qq (show r = 3 by rw [hch]; simp [O]); clear hch; go_enter func190, ntmps190; go_wp2_with (first | (go_at_call 208; (refine (hdh.out _ hB00).mono ?_); rintro e w1 ⟨rfl, hB1⟩; have k1 := b0.pure hB1; obtain ⟨c0, c1, c2, c3, c4⟩ := k1.a5; have hB01 := hB0.trans (hB1.mono hB0.size)) | (go_at_call 209; (refine (hch2.out _ hB1).mono ?_); rintro e w2 ⟨rfl, hB2⟩; have k2 := k1.pure hB2; clear c0 c1 c2 c3 c4; obtain ⟨c0, c1, c2, c3, c4⟩ := k2.a5; have hB02 := hB1.trans (hB2.mono hB1.size); have hB03 := hB01.trans (hB2.mono hB01.size))); go_ret; exact ⟨by rw [hres.out]; rfl, hB03⟩
 have z : 0 ≤ c := by omega
 cases m
 ·skip
  have hres := qq (show r = 50 by rw [hch]; simp [O]); exact aja
 ·skip
  have hres := qq (show r = 0 by rw [hch]; simp [O]); exact aja
theorem be2 {P : Prop} (h : P := by
 clear hch
 go_enter func206, ntmps206
 go_wp2_with (first | (go_at_call 129; (refine (hdh.out _ hB00).mono ?_); rintro e w1 ⟨rfl, hB1⟩; have k1 := b0.pure hB1; obtain ⟨c0, c1, c2, c3, c4⟩ := k1.a5; have hB01 := hB0.trans (hB1.mono hB0.size)) | (go_at_call 128; (refine (hch2.out _ hB1).mono ?_); rintro e w2 ⟨rfl, hB2⟩; have k2 := k1.pure hB2; clear c0 c1 c2 c3 c4; obtain ⟨c0, c1, c2, c3, c4⟩ := k2.a5; have hB02 := hB1.trans (hB2.mono hB1.size); have hB03 := hB01.trans (hB2.mono hB01.size)) | (go_at_call 213; (refine (hmh.out _ hB02).mono ?_); rintro e w3 ⟨rfl, hB3⟩; have hB04 := hB03.trans (hB3.mono hB03.size)))
 go_ret
 exact ⟨by rw [hres.out]; rfl, hB04⟩) : P := h
theorem bfi (t : VT) (P : Nat → Prop) (w : World) (U : Rd P w t) :
 Calls prog 206 #[t.arg] w fun e W => e = .returned (.int .i64 t.v.chk) ∧ Below w.heap.size w W := by
 obtain ⟨D, G, H, F, E, I, A, ks, l, rfl, hK, z, X, Z⟩ := U.open
 have hB0 := (qz w.heap.size w).alloc (qj _) (.cells #[.int .u8 D, .int .u64 G, .string H, .slice F ks.length E, .slice I l.length A] 56)
 have b0 := Blk.new w [.int .u8 D, .int .u64 G, .string H, .slice F ks.length E, .slice I l.length A] 56
 have N := U.pure hB0
 have hd0 := fun (u : World) (J : Below (w.alloc (.cells #[.int .u8 D, .int .u64 G, .string H, .slice F ks.length E, .slice I l.length A] 56)).heap.size (w.alloc (.cells #[.int .u8 D, .int .u64 G, .string H, .slice F ks.length E, .slice I l.length A] 56)) u) => am9 _ P u 6 (N.pure J) (by omega)
 have M := fun (u : World) (J : Below (w.alloc (.cells #[.int .u8 D, .int .u64 G, .string H, .slice F ks.length E, .slice I l.length A] 56)).heap.size (w.alloc (.cells #[.int .u8 D, .int .u64 G, .string H, .slice F ks.length E, .slice I l.length A] 56)) u) => as3 _ P u 200 (N.pure J) (by omega) (by omega)
 have K := fun (u : World) (J : Below (w.alloc (.cells #[.int .u8 D, .int .u64 G, .string H, .slice F ks.length E, .slice I l.length A] 56)).heap.size (w.alloc (.cells #[.int .u8 D, .int .u64 G, .string H, .slice F ks.length E, .slice I l.length A] 56)) u) => bgj _ P u (N.pure J)
 have hch : (VT.mk D G H (.slice F ks.length E) (.slice I l.length A) ks l).v.chk = (if (VT.mk D G H (.slice F ks.length E) (.slice I l.length A) ks l).v.deep 6 then 51 else if (VT.mk D G H (.slice F ks.length E) (.slice I l.length A) ks l).v.cnt 200 < 0 then 3 else if (VT.mk D G H (.slice F ks.length E) (.slice I l.length A) ks l).v.may then 0 else 50) := rfl
 generalize (VT.mk D G H (.slice F ks.length E) (.slice I l.length A) ks l).v.deep 6 = d at hd0 hch
 generalize (VT.mk D G H (.slice F ks.length E) (.slice I l.length A) ks l).v.cnt 200 = c at M hch
 generalize (VT.mk D G H (.slice F ks.length E) (.slice I l.length A) ks l).v.may = m at K hch
 generalize (VT.mk D G H (.slice F ks.length E) (.slice I l.length A) ks l).v.chk = r at hch ⊢
 simp only [VT.arg_mk] at hd0 M K ⊢
 have hdh := qq hd0
 have hch2 := qq M
 have hmh := qq K
 have hB00 := qz (w.alloc (.cells #[.int .u8 D, .int .u64 G, .string H, .slice F ks.length E, .slice I l.length A] 56)).heap.size (w.alloc (.cells #[.int .u8 D, .int .u64 G, .string H, .slice F ks.length E, .slice I l.length A] 56))
 clear hd0 M K N
 cases d
 rotate_left 1
 ·skip
  have hres := qq (show r = 51 by rw [hch]; simp); clear hch; go_enter func206, ntmps206; go_wp2_with (first | (go_at_call 129; (refine (hdh.out _ hB00).mono ?_); rintro e w1 ⟨rfl, hB1⟩; have k1 := b0.pure hB1; obtain ⟨c0, c1, c2, c3, c4⟩ := k1.a5; have hB01 := hB0.trans (hB1.mono hB0.size))); go_ret; exact ⟨by rw [hres.out]; rfl, hB01⟩
 by_cases O : c < 0
 ·skip
  have hres := qq (show r = 3 by rw [hch]; simp [O]); clear hch; go_enter func206, ntmps206; go_wp2_with (first | (go_at_call 129; (refine (hdh.out _ hB00).mono ?_); rintro e w1 ⟨rfl, hB1⟩; have k1 := b0.pure hB1; obtain ⟨c0, c1, c2, c3, c4⟩ := k1.a5; have hB01 := hB0.trans (hB1.mono hB0.size)) | (go_at_call 128; (refine (hch2.out _ hB1).mono ?_); rintro e w2 ⟨rfl, hB2⟩; have k2 := k1.pure hB2; clear c0 c1 c2 c3 c4; obtain ⟨c0, c1, c2, c3, c4⟩ := k2.a5; have hB02 := hB1.trans (hB2.mono hB1.size); have hB03 := hB01.trans (hB2.mono hB01.size))); go_ret; exact ⟨by rw [hres.out]; rfl, hB03⟩
 have Y : 0 ≤ c := by omega
 cases m
 ·skip
  have hres := qq (show r = 50 by rw [hch]; simp [O]); exact be2
 ·skip
  have hres := qq (show r = 0 by rw [hch]; simp [O]); exact be2
theorem bct {t : VT} (h : t.v.chk = 0) : t.v.bytes.length ≤ 1000000 := by
 obtain ⟨E, A, D⟩ := al3 h
 have := aiv t.v D 200 A
 omega
theorem av9 (t : VT) (P : Nat → Prop) (w : World) (Y : Rd P w t) (hT : Tb w) :
 Calls prog 165 #[t.arg] w fun e w' => ∃ r, e = .returned (.tuple #[r, .int .i64 t.v.chk]) ∧ Own w.heap.size 5 1 aax w' r (if t.v.chk = 0 then t.v.bytes else []) ∧ Below w.heap.size w w' := by
 have ah := Y
 obtain ⟨D, G, H, F, E, I, A, ks, l, rfl, hK, hL, ai, ak⟩ := Y.open
 have J := (qz w.heap.size w).alloc (qj _) (.cells #[.int .u8 D, .int .u64 G, .string H, .slice F ks.length E, .slice I l.length A] 56)
 have b0 := Blk.new w [.int .u8 D, .int .u64 G, .string H, .slice F ks.length E, .slice I l.length A] 56
 have N := ajb _ P _ (Y.pure J) (hT.pure J)
 have X := @al3 (VT.mk D G H (.slice F ks.length E) (.slice I l.length A) ks l).v
 have K := @bct (VT.mk D G H (.slice F ks.length E) (.slice I l.length A) ks l)
 have O := fun (u : World) (z : Below w.heap.size w u) (hm : (VT.mk D G H (.slice F ks.length E) (.slice I l.length A) ks l).v.may = true) (hb : Big _) => ay5 (VT.mk D G H (.slice F ks.length E) (.slice I l.length A) ks l) w.heap.size u (.slice none 0 0) [] (ah.here.pure z) Own.nil z.size hm hb
 simp only [VT.arg_mk] at N O ⊢
 obtain ⟨bs, aa⟩ := qx ((VT.mk D G H (.slice F ks.length E) (.slice I l.length A) ks l).v.bytes)
 obtain ⟨r, hr⟩ := qx ((VT.mk D G H (.slice F ks.length E) (.slice I l.length A) ks l).v.chk)
 rw [hr] at N X K ⊢
 rw [aa] at O K ⊢
 have Z := qq N
 have ag := qq O
 have ad := qq X
 have ab := qq K
 clear N O X K hr aa
 by_cases W : r = 0
 rotate_left 1
 ·have aj : (r != 0) = true := bne_iff_ne.2 W
  rw [qk W]; clear W; go_enter func165, ntmps165; go_wp2_with (first | (go_at_call 190; (with_reducible refine Z.out.mono ?_); rintro e w1 ⟨rfl, U⟩; have M := J.trans (U.mono J.size))); go_ret2; exact ⟨_, rfl, Own.nil, M⟩
 ·subst W
  rw [qw rfl]; have ac := qq (ad.out rfl).2.2; have af := qq (show Big (([] : List UInt8).length + bs.length + 100) by have := ab.out rfl; unfold Big; simp; omega); go_enter func165, ntmps165; go_wp2_with (first | (go_at_call 190; (with_reducible refine Z.out.mono ?_); rintro e w1 ⟨rfl, U⟩; have M := J.trans (U.mono J.size); have k1 := b0.pure U; obtain ⟨c0, c1, c2, c3, c4⟩ := k1.a5) | (go_at_call 194; (with_reducible refine (ag.out _ M ac.out af.out).mono ?_); rintro e w3 ⟨r3, rfl, h, ae⟩; rw [List.nil_append] at h)); go_ret2; exact ⟨_, rfl, h, M.trans ae⟩
abbrev OnG (b : Nat) : Nat → Prop := fun k => k = b ∨ k = b + 1 ∨ k = b + 1 + 1
theorem ata (w : World) (b : Nat) :
 CallsD prog 199 #[.pointer (some ⟨b, 0, none⟩), .pointer (some ⟨b + 1, 0, none⟩), .pointer (some ⟨b + 1 + 1, 0, none⟩)] .returning w fun e D E => e = .returned (.tuple #[]) ∧ D = .returning ∧ E = w := by
 refine callsD_of_wpS func199 rfl fun A G F => ?_
 show Code.wpS prog _ _ { tmps := #[.pointer (some ⟨b, 0, none⟩), .pointer (some ⟨b + 1, 0, none⟩), .pointer (some ⟨b + 1 + 1, 0, none⟩), undef, undef, undef, undef, undef, undef, undef, undef, undef, undef, undef, undef, undef, undef, undef], defers := [] } _ _
 apply wpS_seq
 apply wpS_region
 simp [wpOpsS, go_sem, recoverD, F, Exit.thenS]
 refine wpS_of_wp ?_
 go_wp2
 cases A
 simp_all [bodyPostS, results, Tryz.results199]
def PL (w : World) (qb rb vb : Nat) (left : Int) (n : Nat) (bad : Bool) : Prop :=
 Blk w qb [.pointer (some ⟨rb, 0, none⟩), .int .i64 left] ∧ Blk w rb [.pointer (some ⟨vb, 0, none⟩)] ∧ ∃ a c, Blk w vb [.slice a n c, .bool true, .bool bad]
theorem PR.pl {w : World} {qb E D : Nat} {left : Int} {b : List UInt8} {A : Bool} (h : PR w qb E D left b A) : PL w qb E D left b.length A := by
 obtain ⟨F, H, ⟨bv, I, G, -⟩, -⟩ := h
 obtain ⟨a, c, rfl, -⟩ := G.len
 exact ⟨F, H.1, a, c, I⟩
theorem PL.upd {S : Nat → Prop} {w G : World} {qb D A n : Nat} {left : Int} {F : Bool} (h : PL w qb D A left n F) (E : Upd S w G) (M : ¬ S qb) (J : ¬ S D) (K : ¬ S A) : PL G qb D A left n F := by
 obtain ⟨k1, I, a, c, H⟩ := h
 exact ⟨k1.upd E M, I.upd E J, a, c, H.upd E K⟩
theorem PL.pure {w E : World} {qb G F n : Nat} {left : Int} {D : Bool} (h : PL w qb G F left n D) (A : Below w.heap.size w E) : PL E qb G F left n D := by
 obtain ⟨k1, I, a, c, H⟩ := h
 exact ⟨k1.pure A, I.pure A, a, c, H.pure A⟩
theorem PL.q {w : World} {qb A E n : Nat} {left : Int} {D : Bool} (h : PL w qb A E left n D) : Blk w qb [.pointer (some ⟨A, 0, none⟩), .int .i64 left] := h.1
theorem atb (w : World) (qb G D n : Nat) (left : Int) (J : Bool) (h : PL w qb G D left n J) :
 Calls prog 171 #[.pointer (some ⟨G, 0, none⟩)] w fun e A => e = .returned (.int .i64 n) ∧ w = A := by
 obtain ⟨K, E, a, c, F⟩ := h
 have N := E.at 0 rfl
 have M := F.at 0 rfl
 clear K E F
 have H : Calls prog 198 #[.pointer (some ⟨D, 0, none⟩)] w fun e A => e = .returned (.int .i64 n) ∧ w = A := by
  go_enter func198, ntmps198; go_wp2; go_ret; exact ⟨rfl, rfl⟩
 have I := qq H
 clear H
 go_enter func171, ntmps171
 go_wp2_with (go_at_call 198; (with_reducible refine (I.out).mono ?_); rintro e O ⟨rfl, rfl⟩)
 go_ret
 exact ⟨rfl, rfl⟩
theorem awa (w : World) (qb H F n : Nat) (left : Int) (A : Bool) (h : PL w qb H F left n A) :
 Calls prog 173 #[.pointer (some ⟨H, 0, none⟩)] w fun e D => e = .returned (.bool A) ∧ w = D := by
 obtain ⟨K, G, a, c, E⟩ := h
 have N := G.at 0 rfl
 have M := E.at 1 rfl
 have O := E.at 2 rfl
 clear K G E
 have I : Calls prog 202 #[.pointer (some ⟨F, 0, none⟩)] w fun e D => e = .returned (.bool A) ∧ w = D := by
  cases A
  all_goals
   go_enter func202, ntmps202; go_wp2; go_ret; exact ⟨rfl, rfl⟩
 have J := qq I
 clear I
 go_enter func173, ntmps173
 go_wp2_with (go_at_call 202; (with_reducible refine (J.out).mono ?_); rintro e U ⟨rfl, rfl⟩)
 go_ret
 exact ⟨rfl, rfl⟩
theorem awb (w : World) (qb D A n : Nat) (left : Int) (h : PL w qb D A left n false) :
 Calls prog 201 #[.pointer (some ⟨qb, 0, none⟩), .bool true] w fun e E => e = .returned (.tuple #[]) ∧ w = E := by
 have F := h.q.at 0 rfl
 go_enter func201, ntmps201
 go_wp2_with fail
 refine (awa _ qb D A n left false h).mono ?_
 rintro e G ⟨rfl, rfl⟩
 go_wp2
 go_end0
 exact ⟨rfl, rfl⟩
def atc (w : World) : Option (V × Nat) → Ending → World → Prop
 | none, e, w' => e = .returned (.tuple #[VT.zero.arg, .int .i64 0, .int .i64 5]) ∧ Below w.heap.size w w'
 | some (x, n), e, w' => ∃ t : VT, e = .returned (.tuple #[t.arg, .int .i64 (n : Int), .int .i64 0]) ∧ t.v = x ∧ Rd (fun i => w.heap.size ≤ i) w' t ∧ Below w.heap.size w w'
theorem ay6 {w D A : World} (h : Below w.heap.size w D) (F : Upd (OnG w.heap.size) D A) : Below w.heap.size w A :=
 h.trans (F.below h.size (fun k E => by unfold OnG at E; omega))
theorem ag0 {S : Nat → Prop} {B : Nat} {w A D : World} (h : Below B w A) (G : Upd S A D) (E : ∀ k, S k → B ≤ k) (F : B ≤ A.heap.size) : Below B w D :=
 h.trans (G.below F E)
theorem bf7 (t : VT) : ∀ (P : Nat → Prop) (w : World), Rd P w t → t.v.may = true → Big (t.v.bytes.length + 100) → Calls prog 188 #[t.arg] w fun e w' => ∃ r, e = .returned r ∧ Own w.heap.size 5 1 aax w' r t.v.bytes ∧ Below w.heap.size w w' := by
 induction t using VT.ind with
 | h t ih =>
  intro P w hR c8 ca; have dp := hR; obtain ⟨J, A, F, ka, kc, la, Y, ks, l, rfl, hK, hL, d9, et⟩ := hR.open; rw [VT.arg_mk]; have du : ∀ x ∈ l, ∀ (P : Nat → Prop) (w : World), Rd P w x → x.v.may = true → Big (x.v.bytes.length + 100) → Calls prog 188 #[x.arg] w fun e w' => ∃ r, e = .returned r ∧ Own w.heap.size 5 1 aax w' r x.v.bytes ∧ Below w.heap.size w w' := ih
  have di := qq du; have da : 0 ≤ A := hR.n0; have c6 := qq (show A < 18446744073709551616 from hR.n1); have cl := qq dp; rw [ayg, jj] at c8; obtain ⟨b4, df⟩ := c8; have bx := @bci J A F (.slice ka ks.length kc) (.slice la l.length Y) ks l; obtain ⟨W, cx⟩ := qx ((VT.mk J A F (.slice ka ks.length kc) (.slice la l.length Y) ks l).v.bytes); rw [cx] at bx ca ⊢; have al := qq bx; have E := qq ca; have dc := qq df; clear ih du hR dp bx cx ca df; have cv := (qz w.heap.size w).alloc (qj _) (.cells #[.int .u8 J, .int .u64 A, .string F, .slice ka ks.length kc, .slice la l.length Y] 56); have b0 := Blk.new w [.int .u8 J, .int .u64 A, .string F, .slice ka ks.length kc, .slice la l.length Y] 56; have O := cv.alloc cv.size (.cells #[.int .u8 J] 5); have b2 := b0.alloc (.cells #[.int .u8 J] 5)
  have de : J = 240 ∨ J = 8 ∨ J = 2 ∨ J = 49 ∨ J = 50 ∨ J = 149 ∨ J = 160 ∨ J = 168 ∨ J = 169 := by
   rcases adg b4 with h | h | h | h | h | h | h | h <;> omega
  have dq : J = ((UInt8.ofNat J.toNat).toNat : Int) := by rcases de with rfl | rfl | rfl | rfl | rfl | rfl | rfl | rfl | rfl <;> rfl
  have ae := Own.byte1 (w.alloc (.cells #[.int .u8 J, .int .u64 A, .string F, .slice ka ks.length kc, .slice la l.length Y] 56)) (UInt8.ofNat J.toNat) J dq cv.size; rw [show (w.alloc (.cells #[.int .u8 J, .int .u64 A, .string F, .slice ka ks.length kc, .slice la l.length Y] 56)).heap.size = w.heap.size + 1 by simp] at ae; obtain ⟨c0, c1, c2, c3, c4⟩ := b2.a5; have cy : ((w.alloc (.cells #[.int .u8 J, .int .u64 A, .string F, .slice ka ks.length kc, .slice la l.length Y] 56)).alloc (.cells #[.int .u8 J] 5)).heap.size = w.heap.size + 2 := by simp
  have af := qq cy; clear dq de cy; have d7 := adg b4; clear b4; rcases d7 with h | h | h | h | h | h | h | h
  ·obtain ⟨rfl, -⟩ := h
   have I := qq (show W = [UInt8.ofNat (240 : Int).toNat] by rw [al.out]; simp); go_enter func188, ntmps188; go_wp2; go_ret; exact ⟨_, rfl, by rw [I.out]; exact ae, O⟩
  ·obtain ⟨rfl, hn, -⟩ := h
   have dw : A ≤ 255 := by omega
   have I := qq (show W = [UInt8.ofNat (8 : Int).toNat] ++ be 1 A.toNat by rw [al.out]; simp); have D := qq (show W.length = 2 by rw [I.out]; simp [aao]); have bq : A = ((UInt8.ofNat A.toNat).toNat : Int) := by rw [UInt8.toNat_ofNat']; omega
   have br : IntKind.u8.wrap A = A := by
    have e : IntKind.u8.wrap A = A % 256 := rfl; rw [e]; omega
   have b3 : A % 256 = A := by omega
   have cf := qq (show be 1 A.toNat = [UInt8.ofNat A.toNat] by unfold be; rw [Nat.mod_eq_of_lt (by omega)]; rfl); have H := O.alloc O.size (.cells #[.int .u8 A] 5); have X := ae.alloc (.cells #[.int .u8 A] 5); have bt := (Own.byte1 ((w.alloc (.cells #[.int .u8 8, .int .u64 A, .string F, .slice ka ks.length kc, .slice la l.length Y] 56)).alloc (.cells #[.int .u8 8] 5)) (UInt8.ofNat A.toNat) A bq (qj _)).slc aaa; rw [af.out] at bt; clear hn bq br b3
   have br : IntKind.u8.wrap A = A := by
    have e : IntKind.u8.wrap A = A % 256 := rfl; rw [e]; omega
   go_enter func188, ntmps188; go_wp2_with (first | (at_builtin; refine aaj (base := w.heap.size) rfl (.tmp 14) (.tmp 18) 189 5 rfl abx aaa aay _ _ rfl X _ _ rfl bt (by have := E.out.le; have := D.out; simp only [jz, jn, List.length_nil, aao, acj]; unfold maxLen; omega) (by have := E.out.le; have := D.out; simp only [jz, jn, List.length_nil, aao, acj]; omega) H.size ?_; intro v4 w4 ad ab bf bh; have z := H.grown ab H.size (fun j e => X.ge e))); go_ret; exact ⟨_, rfl, by rw [I.out]; exact (by rw [cf.out]; exact ad), z⟩
  ·obtain ⟨rfl, hn, -⟩ := h
   have dw : A ≤ 255 := by omega
   have I := qq (show W = [UInt8.ofNat (2 : Int).toNat] ++ be 1 A.toNat by rw [al.out]; simp); have D := qq (show W.length = 2 by rw [I.out]; simp [aao]); have bq : A = ((UInt8.ofNat A.toNat).toNat : Int) := by rw [UInt8.toNat_ofNat']; omega
   have br : IntKind.u8.wrap A = A := by
    have e : IntKind.u8.wrap A = A % 256 := rfl; rw [e]; omega
   have b3 : A % 256 = A := by omega
   have cf := qq (show be 1 A.toNat = [UInt8.ofNat A.toNat] by unfold be; rw [Nat.mod_eq_of_lt (by omega)]; rfl); have H := O.alloc O.size (.cells #[.int .u8 A] 5); have X := ae.alloc (.cells #[.int .u8 A] 5); have bt := (Own.byte1 ((w.alloc (.cells #[.int .u8 2, .int .u64 A, .string F, .slice ka ks.length kc, .slice la l.length Y] 56)).alloc (.cells #[.int .u8 2] 5)) (UInt8.ofNat A.toNat) A bq (qj _)).slc aaa; rw [af.out] at bt; clear hn bq br b3
   have br : IntKind.u8.wrap A = A := by
    have e : IntKind.u8.wrap A = A % 256 := rfl; rw [e]; omega
   go_enter func188, ntmps188; go_wp2_with (first | (at_builtin; refine aaj (base := w.heap.size) rfl (.tmp 14) (.tmp 18) 189 5 rfl abx aaa aay _ _ rfl X _ _ rfl bt (by have := E.out.le; have := D.out; simp only [jz, jn, List.length_nil, aao, acj]; unfold maxLen; omega) (by have := E.out.le; have := D.out; simp only [jz, jn, List.length_nil, aao, acj]; omega) H.size ?_; intro v4 w4 ad ab bf bh; have z := H.grown ab H.size (fun j e => X.ge e))); go_ret; exact ⟨_, rfl, by rw [I.out]; exact (by rw [cf.out]; exact ad), z⟩
  ·obtain ⟨hk, -⟩ := h
   rcases hk with rfl | rfl
   ·have I := qq (show W = [UInt8.ofNat (49 : Int).toNat] ++ be 8 A.toNat by rw [al.out]; simp)
    have D := qq (show W.length = 9 by rw [I.out]; simp [aao]); go_enter func188, ntmps188; go_wp2_with (first | (go_at_call 207; refine (ba6 _ A 8 da c6 (by unfold Wd; omega)).mono ?_; rintro e w3 ⟨r3, rfl, K, H⟩; have X := ae.pure H; have Z := O.trans (H.mono O.size)) | (at_builtin; refine aaj (base := w.heap.size) rfl (.tmp 23) (.tmp 26) 189 5 rfl abx aaa aay _ _ rfl X _ _ rfl (K.slc aaa) (by have := E.out.le; have := D.out; simp only [jz, jn, List.length_nil, aao, acj]; unfold maxLen; omega) (by have := E.out.le; have := D.out; simp only [jz, jn, List.length_nil, aao, acj]; omega) Z.size ?_; intro v4 w4 ad ab bf bh; have z := Z.grown ab Z.size (fun j e => X.ge e))); go_ret; exact ⟨_, rfl, by rw [I.out]; exact ad, z⟩
   ·have I := qq (show W = [UInt8.ofNat (50 : Int).toNat] ++ be 8 A.toNat by rw [al.out]; simp)
    have D := qq (show W.length = 9 by rw [I.out]; simp [aao]); go_enter func188, ntmps188; go_wp2_with (first | (go_at_call 207; refine (ba6 _ A 8 da c6 (by unfold Wd; omega)).mono ?_; rintro e w3 ⟨r3, rfl, K, H⟩; have X := ae.pure H; have Z := O.trans (H.mono O.size)) | (at_builtin; refine aaj (base := w.heap.size) rfl (.tmp 23) (.tmp 26) 189 5 rfl abx aaa aay _ _ rfl X _ _ rfl (K.slc aaa) (by have := E.out.le; have := D.out; simp only [jz, jn, List.length_nil, aao, acj]; unfold maxLen; omega) (by have := E.out.le; have := D.out; simp only [jz, jn, List.length_nil, aao, acj]; omega) Z.size ?_; intro v4 w4 ad ab bf bh; have z := Z.grown ab Z.size (fun j e => X.ge e))); go_ret; exact ⟨_, rfl, by rw [I.out]; exact ad, z⟩
  ·obtain ⟨rfl, -, cp, -⟩ := h
   have I := qq (show W = ([UInt8.ofNat (149 : Int).toNat] ++ be 2 F.size) ++ F.data.toList by rw [al.out]; simp); have D := qq (show W.length = 1 + 2 + F.size by rw [I.out]; simp [aao, acj]; omega); have cw : IntKind.u64.wrap (F.size : Int) = (F.size : Int) := bau _ (by omega) (by omega); have eb : (F.size : Int) ≤ 4096 := by omega
   have ci := qq (show (F.size : Int) < 18446744073709551616 by omega); clear cp; go_enter func188, ntmps188; go_wp2_with (first | (go_at_call 207; refine (ba6 _ (F.size : Int) 2 (by omega) ci (by unfold Wd; omega)).mono ?_; rintro e w3 ⟨r3, rfl, K, H⟩; rw [Int.toNat_natCast] at K; have X := ae.pure H; have Z := O.trans (H.mono O.size)) | (at_builtin; refine aaj (base := w.heap.size) rfl (.tmp 30) (.tmp 35) 189 5 rfl abx aaa aay _ _ rfl X _ _ rfl (K.slc aaa) (by have := E.out.le; have := D.out; simp only [jz, jn, List.length_nil, aao, acj]; unfold maxLen; omega) (by have := E.out.le; have := D.out; simp only [jz, jn, List.length_nil, aao, acj]; omega) Z.size ?_; intro v4 w4 ad ab bf bh; have z := Z.grown ab Z.size (fun j e => X.ge e); have k4 := (b2.pure H).upd (Upd.grown (S := fun j => (Value.slice (some ⟨w.heap.size + 1, 0, none⟩) 1 1).ownBlock = some j) ab (fun j e => e)) (fun e => by have e2 : w.heap.size + 1 = w.heap.size := Option.some.inj e; omega); clear c0 c1 c2 c3 c4; have c2 := k4.at 2 rfl) | (at_builtin; refine aon (base := w.heap.size) rfl (.tmp 37) (.tmp 39) rfl v4 _ rfl ad F rfl (by have := E.out.le; have := D.out; simp only [jz, jn, List.length_nil, aao, acj]; omega) z.size ?_; intro v5 w5 ba bi; have am := z.grown bi z.size (fun j e => ad.ge e))); go_ret; exact ⟨_, rfl, by rw [I.out]; exact ba, am⟩
  ·obtain ⟨rfl, -, cp, -⟩ := h
   have I := qq (show W = ([UInt8.ofNat (160 : Int).toNat] ++ be 4 F.size) ++ F.data.toList by rw [al.out]; simp); have D := qq (show W.length = 1 + 4 + F.size by rw [I.out]; simp [aao, acj]; omega); have cw : IntKind.u64.wrap (F.size : Int) = (F.size : Int) := bau _ (by omega) (by omega); have eb : (F.size : Int) ≤ 4096 := by omega
   have ci := qq (show (F.size : Int) < 18446744073709551616 by omega); clear cp; go_enter func188, ntmps188; go_wp2_with (first | (go_at_call 207; refine (ba6 _ (F.size : Int) 4 (by omega) ci (by unfold Wd; omega)).mono ?_; rintro e w3 ⟨r3, rfl, K, H⟩; rw [Int.toNat_natCast] at K; have X := ae.pure H; have Z := O.trans (H.mono O.size)) | (at_builtin; refine aaj (base := w.heap.size) rfl (.tmp 43) (.tmp 48) 189 5 rfl abx aaa aay _ _ rfl X _ _ rfl (K.slc aaa) (by have := E.out.le; have := D.out; simp only [jz, jn, List.length_nil, aao, acj]; unfold maxLen; omega) (by have := E.out.le; have := D.out; simp only [jz, jn, List.length_nil, aao, acj]; omega) Z.size ?_; intro v4 w4 ad ab bf bh; have z := Z.grown ab Z.size (fun j e => X.ge e); have k4 := (b2.pure H).upd (Upd.grown (S := fun j => (Value.slice (some ⟨w.heap.size + 1, 0, none⟩) 1 1).ownBlock = some j) ab (fun j e => e)) (fun e => by have e2 : w.heap.size + 1 = w.heap.size := Option.some.inj e; omega); clear c0 c1 c2 c3 c4; have c2 := k4.at 2 rfl) | (at_builtin; refine aon (base := w.heap.size) rfl (.tmp 50) (.tmp 52) rfl v4 _ rfl ad F rfl (by have := E.out.le; have := D.out; simp only [jz, jn, List.length_nil, aao, acj]; omega) z.size ?_; intro v5 w5 ba bi; have am := z.grown bi z.size (fun j e => ad.ge e))); go_ret; exact ⟨_, rfl, by rw [I.out]; exact ba, am⟩
  ·obtain ⟨rfl, -, -, dg, dt⟩ := h
   have dx := qq (ahd dt); have c7 := qq dg; clear dt dg; obtain ⟨aa, ah⟩ := qx (be 4 l.length ++ V.bytesL true ks (l.map VT.v)); have I := qq (show W = ([UInt8.ofNat (168 : Int).toNat] ++ be 4 aa.length) ++ aa by rw [al.out, ← ah]; simp [aao]); have D := qq (show W.length = 5 + aa.length by rw [I.out]; simp [aao]; omega); have b9 := qq ah
   have bp := qq (show l.length ≤ aa.length by
    rw [← ah, jz]; have := ai9 true (l.map VT.v) ks
    rw [jf] at this; omega)
   have cw : IntKind.u64.wrap (l.length : Int) = (l.length : Int) := al9 (E.out.mono (by have := bp.out; have := D.out; omega)); have ct := qq (show (l.length : Int) < 18446744073709551616 by have := E.out.le; have := bp.out; have := D.out; omega); clear ah; go_enter func188, ntmps188; go_wp2_with (first | (go_at_call 207; refine (ba6 _ (l.length : Int) 4 (by omega) ct (by unfold Wd; omega)).mono ?_; rintro e w3 ⟨r3, rfl, K, H⟩; rw [Int.toNat_natCast] at K; obtain ⟨ra, rn, rc, rfl⟩ := K.shape3)); have bg := K.rebase (b' := w.heap.size + 2) (fun i hi => by rw [← af.out]; exact K.ge hi); have ar : Below (w.heap.size + 2) ((w.alloc (.cells #[.int .u8 168, .int .u64 A, .string F, .slice ka ks.length kc, .slice la l.length Y] 56)).alloc (.cells #[.int .u8 168] 5)) w3 := by rw [← af.out]; exact H
   obtain ⟨WW, bm⟩ := zj ((w.alloc (.cells #[.int .u8 168, .int .u64 A, .string F, .slice ka ks.length kc, .slice la l.length Y] 56)).alloc (.cells #[.int .u8 168] 5)); rw [← bm] at ar ae b2 af O; have a0 : w.heap.size + 2 ≤ WW.heap.size := by rw [af.out]; exact qj _
   clear c0 c1 c2 c3 c4 H K bm; go_loopw [4, 5] (fun s4 s5 wr => ∃ (k : Nat) (G : List UInt8), k ≤ l.length ∧ s5 = .int .i64 k ∧ Own (w.heap.size + 2) 5 1 aax wr s4 G ∧ Hid (G ++ V.bytesL true (ks.drop k) ((l.map VT.v).drop k) = aa) ∧ Below (w.heap.size + 2) WW wr) (fun _ s5 _ => l.length - (intOf s5).toNat)
   case atStart => exact ⟨0, be 4 l.length, by omega, rfl, bg, qq b9.out, ar⟩
   case round =>
    clear bg ar; obtain ⟨k, G, hk, rfl, hO, ao, hB⟩ := hrel; obtain ⟨ia, ic, rfl⟩ := aap hO; have U := qq (show G.length + (V.bytesL true (ks.drop k) ((l.map VT.v).drop k)).length = aa.length by rw [← ao.out, jz]); have kr := b2.below hB (by omega); have c0 := kr.at 0 rfl; have c3 := kr.at 3 rfl; have c4 := kr.at 4 rfl; have ax : Below w.heap.size w wr := O.trans (hB.mono (by omega)); have a1 := cl.out.pure ax; by_cases N : k < l.length
    ·have ay : Slc ac6 5 wr (.slice la l.length Y) l := a1.lv
     have h1 : (k : Int) < (l.length : Int) := by omega
     obtain ⟨g, off, rfl⟩ := ay.addrB N; have aw := a1.sub l[k] (qy N); obtain ⟨xk, xn, xs, cj, cq, co, cu, cg, cd, dj, xl, hx, q0, q1, q2, q3, q4⟩ := ae4 ay N aw; have au := agw dc.out l[k].v (jv.2 ⟨_, qy N, rfl⟩); have b5 := qq (ai8 true ks (l.map VT.v) k (by simpa using N) (fun h => by rw [c7.out]; exact N)); have hi := di.out l[k] (qy N) P; have bb : (l.map VT.v)[k]'(by simpa using N) = l[k].v := by rw [zq]
     obtain ⟨xb, az⟩ := qx (l[k].v.bytes); have bj := qq (show V.bytesL true (ks.drop k) ((l.map VT.v).drop k) = _ from by rw [b5.out, bb, az]); rw [az] at hi; have bu := aw; rw [hx] at hi bu au; rw [VT.arg_mk] at hi; have cr := qq hi; have b8 := qq au; have d5 := ay; have ck := qq hx; clear hi hx au az bb aw; have bl : k < ks.length := by rw [c7.out]; exact N
     have dk : Slc abv 1 wr (.slice ka ks.length kc) ks := a1.kv; obtain ⟨kg, dd, rfl⟩ := dk.addrB bl; have kq := dk.get k bl 0 _ rfl; rw [Nat.mul_one, Nat.add_zero] at kq; obtain ⟨M, bd⟩ := qx (ks[k]); have bw := qq (show 1 ≤ M.size ∧ M.size ≤ 255 by rw [← bd]; exact dx.out _ (qy bl)); have dm := qq (show ks.getD k ByteArray.empty = M by rw [← bd]; simp [List.getD, List.getElem?_eq_getElem bl]); have ag := qq (show (V.bytesL true (ks.drop k) ((l.map VT.v).drop k)).length = 1 + M.size + (xb.length + (V.bytesL true (ks.drop (k + 1)) ((l.map VT.v).drop (k + 1))).length) by rw [bj.out, dm.out]; simp only [↓reduceIte, jz, aao, acj]); rw [bd] at kq; have ej : (k : Int) < (ks.length : Int) := by omega
     have eo : IntKind.u8.wrap (M.size : Int) = (M.size : Int) := by
      have e : IntKind.u8.wrap (M.size : Int) = (M.size : Int) % 256 := rfl; have := bw.out; rw [e]; omega
     have er : (M.size : Int) ≤ 255 := by have := bw.out; omega
     have c9 : (M.size : Int) = ((UInt8.ofNat M.size).toNat : Int) := by rw [UInt8.toNat_ofNat']; have := bw.out; omega
     have dy := qq (show be 1 M.size = [UInt8.ofNat M.size] by unfold be; rw [Nat.mod_eq_of_lt (by have := bw.out; omega)]; rfl); have ea := hB.alloc (jk a0 hB.size) (.cells #[.int .u8 (M.size : Int)] 5); have dr := hO.alloc (.cells #[.int .u8 (M.size : Int)] 5); have ec := (Own.byte1 wr (UInt8.ofNat M.size) (M.size : Int) c9 (qj _)).slc aaa; have dl := jk (jk a0 hB.size) ((qz wr.heap.size wr).alloc (qj _) (.cells #[.int .u8 (M.size : Int)] 5)).size; have b6 := qq (fun (u : World) (hu : Below (w.heap.size + 2) WW u) => (cl.out.pure (O.trans (hu.mono (by omega)))))
     have dv := qq (fun (u : World) (hu : Below (w.heap.size + 2) WW u) => show u.cell? ⟨kg, dd + k, none⟩ = some (.string M) by
      have h9 : Slc abv 1 u (.slice (some ⟨kg, dd, none⟩) ks.length kc) ks := (b6.out u hu).kv; have h8 := h9.get k bl 0 _ rfl
      rw [Nat.mul_one, Nat.add_zero, bd] at h8; exact h8)
     have dz := qq (fun (u : World) (hu : Below (w.heap.size + 2) WW u) => show Rd P u (.mk xk xn xs (.slice cj cq co) (.slice cu cg cd) dj xl) by rw [← ck.out]; exact (b6.out u hu).sub l[k] (qy N))
     have ed := qq (fun (u : World) (hu : Below (w.heap.size + 2) WW u) => show u.cell? ⟨g, off + k * 5, none⟩ = some (.int .u8 xk) ∧ u.cell? ⟨g, off + k * 5 + 1, none⟩ = some (.int .u64 xn) ∧ u.cell? ⟨g, off + k * 5 + 2, none⟩ = some (.string xs) ∧ u.cell? ⟨g, off + k * 5 + 3, none⟩ = some (.slice cj cq co) ∧ u.cell? ⟨g, off + k * 5 + 4, none⟩ = some (.slice cu cg cd) by
      have h9 : Slc ac6 5 u (.slice (some ⟨g, off, none⟩) l.length Y) l := (b6.out u hu).lv; have h8 := aoo h9 N
      rw [ck.out] at h8; exact h8)
     have db := qq b2; clear bd c9; go_wp2_with (first | (at_builtin; refine aaj (base := w.heap.size + 2) rfl (.tmp 72) (.tmp 80) 189 5 rfl abx aaa aay _ G rfl dr _ [UInt8.ofNat M.size] rfl ec (by have := E.out.le; have := U.out; have := D.out; have := ag.out; simp only [jz, jn, List.length_nil, aao, acj]; unfold maxLen; omega) (by have := E.out.le; have := U.out; have := D.out; have := ag.out; simp only [jz, jn, List.length_nil, aao, acj]; omega) dl ?_; intro v5 w5 ba bi ek eh; have am := ea.grown bi dl (fun j e => dr.ge e); have ds := jk a0 am.size; have k5 := db.out.below am (by omega); have eq := k5.at 0 rfl; have es := k5.at 3 rfl; have ep := k5.at 4 rfl; have el := dv.out w5 am) | (at_builtin; refine aon (base := w.heap.size + 2) rfl (.tmp 82) (.tmp 87) rfl v5 _ rfl ba M rfl (by have := E.out.le; have := U.out; have := D.out; have := ag.out; simp only [jz, jn, List.length_nil, aao, acj]; omega) ds ?_; intro v6 w6 cs d0; have ak := am.grown d0 ds (fun j e => ba.ge e); have dh := jk a0 ak.size; have k6 := db.out.below ak (by omega); have em := k6.at 4 rfl; obtain ⟨x0, x1, x2, x3, x4⟩ := ed.out w6 ak; have d3 := dz.out w6 ak) | (go_at_call 188; refine (cr.out _ d3 b8.out (E.out.mono (by have := U.out; have := D.out; have := ag.out; omega))).mono ?_; rintro e w7 ⟨r7, rfl, aj, ac⟩; have bk := cs.pure ac; have ce := ak.trans (ac.mono dh); have bn := jk dh ac.size) | (at_builtin; refine aaj (base := w.heap.size + 2) rfl (.tmp 89) (.tmp 95) 189 5 rfl abx aaa aay v6 _ rfl bk _ xb rfl (aj.slc aaa) (by have := E.out.le; have := U.out; have := D.out; have := ag.out; simp only [jz, jn, List.length_nil, aao, acj]; unfold maxLen; omega) (by have := E.out.le; have := U.out; have := D.out; have := ag.out; simp only [jz, jn, List.length_nil, aao, acj]; omega) bn ?_; intro v8 w8 av an cz c5; have ai := ce.grown an bn (fun j e => bk.ge e))); go_roundw
     case rel => exact ⟨k + 1, _, by omega, by go_num, av, qq (by rw [← ao.out, bj.out, dm.out, dy.out]; simp), ai⟩
     case measure => simp [intOf]; omega
    ·obtain rfl : k = l.length := by omega
     have b1 := qq (show G = aa by have e : (l.map VT.v).drop l.length = [] := List.drop_eq_nil_of_le (by simp); have := ao.out; rw [e] at this; unfold V.bytesL at this; rw [List.append_nil] at this; exact this); have ef : IntKind.u64.wrap (G.length : Int) = (G.length : Int) := al9 (E.out.mono (by have := U.out; have := D.out; omega)); have ch := qq (show (G.length : Int) < 18446744073709551616 by have := E.out.le; have := U.out; have := D.out; omega); have cb : Own w.heap.size 5 1 aax wr (.slice (some ⟨w.heap.size + 1, 0, none⟩) 1 1) [UInt8.ofNat (168 : Int).toNat] := ae.keep (fun j hj _ => hB.block j (by have e2 : w.heap.size + 1 = j := Option.some.inj hj; omega)); go_wp2_with (first | (go_at_call 207; refine (ba6 _ (G.length : Int) 4 (by omega) ch (by unfold Wd; omega)).mono ?_; rintro e w7 ⟨r7, rfl, bo, ac⟩; rw [Int.toNat_natCast] at bo; have aj := cb.pure ac; have bc := hO.pure ac; have aq := ax.trans (ac.mono ax.size)) | (at_builtin; refine aaj (base := w.heap.size) rfl (.tmp 97) (.tmp 101) 189 5 rfl abx aaa aay _ _ rfl aj _ (be 4 G.length) rfl (bo.slc aaa) (by have := E.out.le; have := D.out; simp only [jz, jn, List.length_nil, aao, acj]; unfold maxLen; omega) (by have := E.out.le; have := D.out; simp only [jz, jn, List.length_nil, aao, acj]; omega) aq.size ?_; intro v8 w8 av an cz c5; have ai := aq.grown an aq.size (fun j e => aj.ge e); have cc := bc.upd (Upd.grown (S := fun j => (Value.slice (some ⟨w.heap.size + 1, 0, none⟩) 1 1).ownBlock = some j) an (fun j e => e)) (fun j hj e => by have h9 := bc.ge hj; have e2 : w.heap.size + 1 = j := Option.some.inj e; omega)) | (at_builtin; refine aaj (base := w.heap.size) rfl (.tmp 103) (.tmp 104) 189 5 rfl abx aaa aay v8 _ rfl av _ G rfl (cc.slc aaa) (by have := E.out.le; have := D.out; have := U.out; simp only [jz, jn, List.length_nil, aao, acj]; unfold maxLen; omega) (by have := E.out.le; have := D.out; have := U.out; simp only [jz, jn, List.length_nil, aao, acj]; omega) ai.size ?_; intro v9 w9 cn b7 d1 d2; have cm := ai.grown b7 ai.size (fun j e => av.ge e))); go_ret; exact ⟨_, rfl, by rw [I.out, ← b1.out]; exact cn, cm⟩
  ·obtain ⟨rfl, -, -, -⟩ := h
   obtain ⟨aa, ah⟩ := qx (be 4 l.length ++ V.bytesL false ks (l.map VT.v)); have I := qq (show W = ([UInt8.ofNat (169 : Int).toNat] ++ be 4 aa.length) ++ aa by rw [al.out, ← ah]; simp [aao]); have D := qq (show W.length = 5 + aa.length by rw [I.out]; simp [aao]; omega); have b9 := qq ah
   have bp := qq (show l.length ≤ aa.length by
    rw [← ah, jz]; have := ai9 false (l.map VT.v) ks
    rw [jf] at this; omega)
   have cw : IntKind.u64.wrap (l.length : Int) = (l.length : Int) := al9 (E.out.mono (by have := bp.out; have := D.out; omega)); have ct := qq (show (l.length : Int) < 18446744073709551616 by have := E.out.le; have := bp.out; have := D.out; omega); clear ah; go_enter func188, ntmps188; go_wp2_with (first | (go_at_call 207; refine (ba6 _ (l.length : Int) 4 (by omega) ct (by unfold Wd; omega)).mono ?_; rintro e w3 ⟨r3, rfl, K, H⟩; rw [Int.toNat_natCast] at K; obtain ⟨ra, rn, rc, rfl⟩ := K.shape3)); have bg := K.rebase (b' := w.heap.size + 2) (fun i hi => by rw [← af.out]; exact K.ge hi); have ar : Below (w.heap.size + 2) ((w.alloc (.cells #[.int .u8 169, .int .u64 A, .string F, .slice ka ks.length kc, .slice la l.length Y] 56)).alloc (.cells #[.int .u8 169] 5)) w3 := by rw [← af.out]; exact H
   obtain ⟨WW, bm⟩ := zj ((w.alloc (.cells #[.int .u8 169, .int .u64 A, .string F, .slice ka ks.length kc, .slice la l.length Y] 56)).alloc (.cells #[.int .u8 169] 5)); rw [← bm] at ar ae b2 af O; have a0 : w.heap.size + 2 ≤ WW.heap.size := by rw [af.out]; exact qj _
   clear c0 c1 c2 c3 c4 H K bm; go_loopw [4, 5] (fun s4 s5 wr => ∃ (k : Nat) (G : List UInt8), k ≤ l.length ∧ s5 = .int .i64 k ∧ Own (w.heap.size + 2) 5 1 aax wr s4 G ∧ Hid (G ++ V.bytesL false (ks.drop k) ((l.map VT.v).drop k) = aa) ∧ Below (w.heap.size + 2) WW wr) (fun _ s5 _ => l.length - (intOf s5).toNat)
   case atStart => exact ⟨0, be 4 l.length, by omega, rfl, bg, qq b9.out, ar⟩
   case round =>
    clear bg ar; obtain ⟨k, G, hk, rfl, hO, ao, hB⟩ := hrel; obtain ⟨ia, ic, rfl⟩ := aap hO; have U := qq (show G.length + (V.bytesL false (ks.drop k) ((l.map VT.v).drop k)).length = aa.length by rw [← ao.out, jz]); have kr := b2.below hB (by omega); have c0 := kr.at 0 rfl; have c3 := kr.at 3 rfl; have c4 := kr.at 4 rfl; have ax : Below w.heap.size w wr := O.trans (hB.mono (by omega)); have a1 := cl.out.pure ax; by_cases N : k < l.length
    ·have ay : Slc ac6 5 wr (.slice la l.length Y) l := a1.lv
     have h1 : (k : Int) < (l.length : Int) := by omega
     obtain ⟨g, off, rfl⟩ := ay.addrB N; have aw := a1.sub l[k] (qy N); obtain ⟨xk, xn, xs, cj, cq, co, cu, cg, cd, dj, xl, hx, q0, q1, q2, q3, q4⟩ := ae4 ay N aw; have au := agw dc.out l[k].v (jv.2 ⟨_, qy N, rfl⟩); have b5 := qq (ai8 false ks (l.map VT.v) k (by simpa using N) (fun h => jp h (by simp))); have hi := di.out l[k] (qy N) P; have bb : (l.map VT.v)[k]'(by simpa using N) = l[k].v := by rw [zq]
     obtain ⟨xb, az⟩ := qx (l[k].v.bytes); have bj := qq (show V.bytesL false (ks.drop k) ((l.map VT.v).drop k) = _ from by rw [b5.out, bb, az]); rw [az] at hi; have bu := aw; rw [hx] at hi bu au; rw [VT.arg_mk] at hi; have cr := qq hi; have b8 := qq au; have d5 := ay; have ck := qq hx; clear hi hx au az bb aw; have ag := qq (show (V.bytesL false (ks.drop k) ((l.map VT.v).drop k)).length = xb.length + (V.bytesL false (ks.drop (k + 1)) ((l.map VT.v).drop (k + 1))).length by rw [bj.out]; simp); clear d9; have ee := qq (show Big (xb.length + 100) from (E.out.mono (by have := U.out; have := D.out; have := ag.out; omega))); have dn := jk a0 hB.size; have d8 := qq (show G.length + xb.length ≤ maxLen by have := E.out.le; have := U.out; have := D.out; have := ag.out; unfold maxLen; omega); have d6 := qq (show (G.length + xb.length) * 1 ≤ 140737488355328 by have := E.out.le; have := U.out; have := D.out; have := ag.out; omega); go_wp2_with (first | (go_at_call 188; refine (cr.out _ bu b8.out ee.out).mono ?_; rintro e w6 ⟨r6, rfl, cs, ak⟩; have bk := hO.pure ak; have ce := hB.trans (ak.mono dn); have bn := jk dn ak.size) | (at_builtin; refine aaj (base := w.heap.size + 2) rfl (.tmp 89) (.tmp 95) 189 5 rfl abx aaa aay _ G rfl bk _ xb rfl (cs.slc aaa) d8.out d6.out bn ?_; intro v7 w7 aj d4 ei eg; have ac := ce.grown d4 bn (fun j e => bk.ge e))); go_roundw
     case rel => exact ⟨k + 1, G ++ xb, by omega, by go_num, aj, qq (by rw [← ao.out, bj.out]; simp), ac⟩
     case measure => simp [intOf]; omega
    ·obtain rfl : k = l.length := by omega
     have b1 := qq (show G = aa by have e : (l.map VT.v).drop l.length = [] := List.drop_eq_nil_of_le (by simp); have := ao.out; rw [e] at this; unfold V.bytesL at this; rw [List.append_nil] at this; exact this); have ef : IntKind.u64.wrap (G.length : Int) = (G.length : Int) := al9 (E.out.mono (by have := U.out; have := D.out; omega)); have ch := qq (show (G.length : Int) < 18446744073709551616 by have := E.out.le; have := U.out; have := D.out; omega); have cb : Own w.heap.size 5 1 aax wr (.slice (some ⟨w.heap.size + 1, 0, none⟩) 1 1) [UInt8.ofNat (169 : Int).toNat] := ae.keep (fun j hj _ => hB.block j (by have e2 : w.heap.size + 1 = j := Option.some.inj hj; omega)); go_wp2_with (first | (go_at_call 207; refine (ba6 _ (G.length : Int) 4 (by omega) ch (by unfold Wd; omega)).mono ?_; rintro e w7 ⟨r7, rfl, bo, ac⟩; rw [Int.toNat_natCast] at bo; have aj := cb.pure ac; have bc := hO.pure ac; have aq := ax.trans (ac.mono ax.size)) | (at_builtin; refine aaj (base := w.heap.size) rfl (.tmp 97) (.tmp 101) 189 5 rfl abx aaa aay _ _ rfl aj _ (be 4 G.length) rfl (bo.slc aaa) (by have := E.out.le; have := D.out; simp only [jz, jn, List.length_nil, aao, acj]; unfold maxLen; omega) (by have := E.out.le; have := D.out; simp only [jz, jn, List.length_nil, aao, acj]; omega) aq.size ?_; intro v8 w8 av an cz c5; have ai := aq.grown an aq.size (fun j e => aj.ge e); have cc := bc.upd (Upd.grown (S := fun j => (Value.slice (some ⟨w.heap.size + 1, 0, none⟩) 1 1).ownBlock = some j) an (fun j e => e)) (fun j hj e => by have h9 := bc.ge hj; have e2 : w.heap.size + 1 = j := Option.some.inj e; omega)) | (at_builtin; refine aaj (base := w.heap.size) rfl (.tmp 103) (.tmp 104) 189 5 rfl abx aaa aay v8 _ rfl av _ G rfl (cc.slc aaa) (by have := E.out.le; have := D.out; have := U.out; simp only [jz, jn, List.length_nil, aao, acj]; unfold maxLen; omega) (by have := E.out.le; have := D.out; have := U.out; simp only [jz, jn, List.length_nil, aao, acj]; omega) ai.size ?_; intro v9 w9 cn b7 d1 d2; have cm := ai.grown b7 ai.size (fun j e => av.ge e))); go_ret; exact ⟨_, rfl, by rw [I.out, ← b1.out]; exact cn, cm⟩
end Go.Proofs.YtgnaifhmcllnlaaGreatDoor
