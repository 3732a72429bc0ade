/- Plain law of the document's Compare: the sign of cmpX. Conditions: none. (Texts joined; the heads of the others stand below.) -/
import Derived.Lib.Bytealg
import Derived.WalkKit
import Derived.Deep.RegionHeld3

/- Comparisons that order: three-way comparisons of numbers and of texts, one behind the other. Plain mathematics. Conditions: none. -/
namespace Go.Proofs.Ytcelpincmpjhkaa
set_option linter.unusedSimpArgs false
set_option linter.unusedVariables false

/-- A three-way comparison that orders. -/
structure IsCmp {α : Type} (c : α → α → Int) : Prop where
  eq : ∀ a b, c a b = 0 ↔ a = b
  anti : ∀ a b, c b a = - c a b
  trans : ∀ a b d, c a b < 0 → c b d < 0 → c a d < 0

def cmpI (a b : Int) : Int := if a < b then -1 else if b < a then 1 else 0
theorem cmpI_ok : IsCmp cmpI where
  eq := fun a b => by unfold cmpI; split <;> (try split) <;> omega
  anti := fun a b => by unfold cmpI; split <;> split <;> (try split) <;> omega
  trans := fun a b d => by unfold cmpI; split <;> split <;> split <;> (try split) <;> (try split) <;> omega

theorem cmpL_ok : IsCmp Lib.compareBytes where
  eq := by
    intro a
    induction a with
    | nil => intro b; cases b <;> simp [Lib.compareBytes]
    | cons x a ih =>
      intro b
      cases b with
      | nil => simp [Lib.compareBytes]
      | cons y b =>
        unfold Lib.compareBytes
        by_cases h1 : x < y
        · rw [if_pos h1]; simp only [List.cons.injEq]; constructor
          · intro h; omega
          · rintro ⟨rfl, _⟩; exact absurd h1 (UInt8.lt_irrefl x)
        · rw [if_neg h1]
          by_cases h2 : y < x
          · rw [if_pos h2]; simp only [List.cons.injEq]; constructor
            · intro h; omega
            · rintro ⟨rfl, _⟩; exact absurd h2 (UInt8.lt_irrefl x)
          · rw [if_neg h2, ih]
            have : x = y := UInt8.le_antisymm (UInt8.not_lt.1 h2) (UInt8.not_lt.1 h1)
            simp [this]
  anti := by
    intro a
    induction a with
    | nil => intro b; cases b <;> simp [Lib.compareBytes]
    | cons x a ih =>
      intro b
      cases b with
      | nil => simp [Lib.compareBytes]
      | cons y b =>
        unfold Lib.compareBytes
        by_cases h1 : x < y
        · rw [if_neg (fun h => UInt8.lt_irrefl x (UInt8.lt_trans h1 h)), if_pos h1, if_pos h1]; rfl
        · by_cases h2 : y < x
          · rw [if_pos h2, if_neg h1, if_pos h2]
          · rw [if_neg h2, if_neg h1, if_neg h1, if_neg h2, ih]
  trans := by
    intro a
    induction a with
    | nil => intro b d; cases b <;> cases d <;> simp [Lib.compareBytes]
    | cons x a ih =>
      intro b d
      cases b with
      | nil => simp [Lib.compareBytes]
      | cons y b =>
        cases d with
        | nil =>
          simp only [Lib.compareBytes]; split
          · intro _ h; omega
          · split
            · intro h; omega
            · intro _ h; omega
        | cons z d =>
          unfold Lib.compareBytes
          by_cases h1 : x < y
          · rw [if_pos h1]
            by_cases h3 : y < z
            · rw [if_pos h3, if_pos (UInt8.lt_trans h1 h3)]; intro _ _; omega
            · rw [if_neg h3]
              by_cases h4 : z < y
              · rw [if_pos h4]; intro _ h; omega
              · have : y = z := UInt8.le_antisymm (UInt8.not_lt.1 h4) (UInt8.not_lt.1 h3)
                subst this
                rw [if_pos h1]; intro _ _; omega
          · rw [if_neg h1]
            by_cases h2 : y < x
            · rw [if_pos h2]; intro h; omega
            · have : x = y := UInt8.le_antisymm (UInt8.not_lt.1 h2) (UInt8.not_lt.1 h1)
              subst this
              rw [if_neg h2]
              by_cases h3 : x < z
              · rw [if_pos h3, if_pos h3]; intro _ _; omega
              · rw [if_neg h3, if_neg h3]
                by_cases h4 : z < x
                · rw [if_pos h4]; intro _ h; omega
                · rw [if_neg h4, if_neg h4]; exact ih b d

def cmpB (s t : ByteArray) : Int := Lib.compareBytes s.data.toList t.data.toList
theorem cmpB_ok : IsCmp cmpB where
  eq := fun a b => by
    unfold cmpB; rw [cmpL_ok.eq]
    constructor
    · intro h; cases a; cases b; congr 1; exact Array.toList_inj.1 h
    · rintro rfl; rfl
  anti := fun a b => cmpL_ok.anti _ _
  trans := fun a b d => cmpL_ok.trans _ _ _

/-- One comparison behind the other. -/
def thenC (c d : Int) : Int := if c ≠ 0 then c else d
def lexC {α β : Type} (c : α → α → Int) (d : β → β → Int) (x y : α × β) : Int := thenC (c x.1 y.1) (d x.2 y.2)
theorem lexC_ok {α β : Type} {c : α → α → Int} {d : β → β → Int} (hc : IsCmp c) (hd : IsCmp d) : IsCmp (lexC c d) where
  eq := fun a b => by
    unfold lexC thenC
    split
    · rename_i h
      constructor
      · intro h'; exact absurd h' h
      · rintro rfl; exact absurd ((hc.eq _ _).2 rfl) h
    · rename_i h
      have h1 := (hc.eq _ _).1 (Decidable.of_not_not h)
      rw [hd.eq]
      constructor
      · intro h2; exact Prod.ext h1 h2
      · rintro rfl; rfl
  anti := fun a b => by
    unfold lexC thenC
    rw [hc.anti a.1 b.1, hd.anti a.2 b.2]
    split <;> split <;> omega
  trans := fun a b e => by
    unfold lexC thenC
    by_cases h1 : c a.1 b.1 = 0
    · have e1 := (hc.eq _ _).1 h1
      rw [if_neg (by omega), e1]
      by_cases h2 : c b.1 e.1 = 0
      · rw [if_neg (by omega), if_neg (by omega)]; exact hd.trans _ _ _
      · rw [if_pos h2, if_pos h2]; intro _ h; exact h
    · rw [if_pos h1]
      by_cases h2 : c b.1 e.1 = 0
      · have e2 := (hc.eq _ _).1 h2
        rw [if_neg (by omega), ← e2, if_pos h1]; intro h _; exact h
      · rw [if_pos h2]
        intro h3 h4
        have := hc.trans _ _ _ h3 h4
        rw [if_pos (by omega)]; exact this
theorem IsCmp.refl {α : Type} {c : α → α → Int} (h : IsCmp c) (a : α) : c a a = 0 := (h.eq a a).2 rfl
theorem IsCmp.le_lt {α : Type} {c : α → α → Int} (h : IsCmp c) {a b d : α} (h1 : c a b ≤ 0) (h2 : c b d < 0) : c a d < 0 := by
  rcases Int.lt_or_eq_of_le h1 with h1 | h1
  · exact h.trans _ _ _ h1 h2
  · rw [(h.eq _ _).1 h1]; exact h2
theorem IsCmp.lt_le {α : Type} {c : α → α → Int} (h : IsCmp c) {a b d : α} (h1 : c a b < 0) (h2 : c b d ≤ 0) : c a d < 0 := by
  rcases Int.lt_or_eq_of_le h2 with h2 | h2
  · exact h.trans _ _ _ h1 h2
  · rw [← (h.eq _ _).1 h2]; exact h1
theorem IsCmp.map {α β : Type} {c : α → α → Int} (h : IsCmp c) (f : β → α) (hf : ∀ a b, f a = f b → a = b) : IsCmp (fun a b => c (f a) (f b)) where
  eq := fun a b => by rw [h.eq]; exact ⟨hf a b, fun e => by rw [e]⟩
  anti := fun a b => h.anti _ _
  trans := fun a b d => h.trans _ _ _

/-- The first of some numbers that is not 0. -/
def orI : List Int → Int
  | [] => 0
  | x :: l => if x ≠ 0 then x else orI l
theorem orI_take {L : List Int} {k : Nat} (hk : k < L.length) (h : ∀ j, (hj : j < k) → L[j]'(by omega) = 0) : orI L = if L[k] ≠ 0 then L[k] else orI (L.drop (k + 1)) := by
  induction k generalizing L with
  | zero => cases L with
    | nil => simp at hk
    | cons x L => rfl
  | succ k ih =>
    cases L with
    | nil => simp at hk
    | cons x L =>
      have h0 := h 0 (by omega)
      simp only [List.getElem_cons_zero] at h0
      simp only [orI, h0, ne_eq, not_true, if_false, List.getElem_cons_succ, List.drop_succ_cons]
      exact ih (by simpa using hk) (fun j hj => by have := h (j + 1) (by omega); simpa using this)
theorem orI_zero {L : List Int} (h : ∀ j, (hj : j < L.length) → L[j] = 0) : orI L = 0 := by
  induction L with
  | nil => rfl
  | cons x L ih =>
    have h0 := h 0 (by simp)
    simp only [List.getElem_cons_zero] at h0
    simp only [orI, h0, ne_eq, not_true, if_false]
    exact ih (fun j hj => by have := h (j + 1) (by simpa using hj); simpa using this)

abbrev Xid := Int × ByteArray × ByteArray
def cmpX : Xid → Xid → Int := lexC cmpI (lexC cmpB cmpB)
theorem cmpX_ok : IsCmp cmpX := lexC_ok cmpI_ok (lexC_ok cmpB_ok cmpB_ok)
def keyC : (Int × Xid) → (Int × Xid) → Int := lexC cmpI cmpX
theorem keyC_ok : IsCmp keyC := lexC_ok cmpI_ok cmpX_ok
end Go.Proofs.Ytcelpincmpjhkaa

/- Steps of a region that draws its order, one by one: the slot that is written is given by its number. Conditions: none. -/
namespace Go.Proofs.Ytcelpincmpjhkaa
set_option linter.unusedSimpArgs false
set_option linter.unusedVariables false
section
variable {P : Program} {ops : Array Oper} {Q : Exit → Act → World → Prop} {md : Region.Mode} {S : World → Prop}
theorem takeH (i d : Nat) {oi : Oper} {v : Value} {fuel : Nat} {listed : Array Bool} {a : Act} {w : World} (hi : ops[i]? = some oi) (hd : oi.dst = some d)
    (hs : Region.noSelect ops = true) (hf : Region.free md ops listed i = true) (hr : (Region.ready md ops listed).contains i = true)
    (hQ : ∀ c a w, Q (.panic c) (a.put oi.dst v) w → Q (.panic c) a w) (hy : YieldsIf P ops S oi v a) (hS : S w)
    (h : wpAnyH P md ops Q S fuel (listed.setIfInBounds i true) (a.put (some d) v) w) : wpAnyH P md ops Q S (fuel + 1) listed a w :=
  wpAnyH_take hi hs hf hr hQ hy hS (by rw [hd]; exact h)
/-- As takeH, of an operation that is wanted; what the kernel reckons is filled in. -/
theorem takeY (i d : Nat) {oi : Oper} {v : Value} {fuel : Nat} {listed : Array Bool} {a : Act} {w : World} (hi : ops[i]? = some oi) (hd : oi.dst = some d)
    (hy : ∀ w, S w → (execOp a.eval oi).run P w = .ok (.value v) w) (hS : S w) (h : wpAnyH P md ops Q S fuel (listed.setIfInBounds i true) (a.put (some d) v) w)
    (hs : Region.noSelect ops = true := by kernel_rfl) (hf : Region.free md ops listed i = true := by kernel_rfl) (hr : (Region.ready md ops listed).contains i = true := by kernel_rfl)
    (hw : Region.wanted oi (yielded ops a.tmps) = true := by kernel_rfl) (hQ : ∀ c a w, Q (.panic c) (a.put oi.dst v) w → Q (.panic c) a w := by exact fun _ _ _ h => h) : wpAnyH P md ops Q S (fuel + 1) listed a w :=
  takeH i d hi hd hs hf hr hQ (Or.inl ⟨hw, hy⟩) hS h
/-- As takeH, of an operation that is not wanted. -/
theorem takeN (i d : Nat) {oi : Oper} {fuel : Nat} {listed : Array Bool} {a : Act} {w : World} (hi : ops[i]? = some oi) (hd : oi.dst = some d)
    (hS : S w) (h : wpAnyH P md ops Q S fuel (listed.setIfInBounds i true) (a.put (some d) undef) w)
    (hs : Region.noSelect ops = true := by kernel_rfl) (hf : Region.free md ops listed i = true := by kernel_rfl) (hr : (Region.ready md ops listed).contains i = true := by kernel_rfl)
    (hw : Region.wanted oi (yielded ops a.tmps) = false := by kernel_rfl) (hQ : ∀ c a w, Q (.panic c) (a.put oi.dst undef) w → Q (.panic c) a w := by exact fun _ _ _ h => h) : wpAnyH P md ops Q S (fuel + 1) listed a w :=
  takeH i d hi hd hs hf hr hQ (Or.inr ⟨hw, rfl⟩) hS h
end
theorem lsT {α : Type _} (l : List α) (i : Nat) (a : α) : l.toArray.setIfInBounds i a = (l.set i a).toArray := List.setIfInBounds_toArray l i a
theorem lsZ {α : Type _} (a b : α) (l : List α) : (a :: l).set 0 b = b :: l := rfl
theorem lsS {α : Type _} (a b : α) (l : List α) (n : Nat) : (a :: l).set (n + 1) b = a :: l.set n b := rfl
end Go.Proofs.Ytcelpincmpjhkaa

/- Plain law of posthouseref04.less: byte after byte. Conditions: none. -/
namespace Go.Proofs.Ytcelpincmpjhkaa
set_option linter.unusedSimpArgs false
set_option linter.unusedVariables false
open Go.RowKit

theorem cb_step : ∀ (a b : List UInt8) (k : Nat) (_ : k < a.length) (_ : k < b.length), a[k] = b[k] → Lib.compareBytes (a.drop k) (b.drop k) = Lib.compareBytes (a.drop (k + 1)) (b.drop (k + 1)) := by
  intro a b k ha hb h
  rw [List.drop_eq_getElem_cons ha, List.drop_eq_getElem_cons hb, h]
  simp [Lib.compareBytes]
theorem cb_lt (a b : List UInt8) (k : Nat) (ha : k < a.length) (hb : k < b.length) (h : a[k] < b[k]) : Lib.compareBytes (a.drop k) (b.drop k) = -1 := by
  rw [List.drop_eq_getElem_cons ha, List.drop_eq_getElem_cons hb]
  simp [Lib.compareBytes, h]
theorem cb_gt (a b : List UInt8) (k : Nat) (ha : k < a.length) (hb : k < b.length) (h : b[k] < a[k]) : Lib.compareBytes (a.drop k) (b.drop k) = 1 := by
  have h2 : ¬ a[k] < b[k] := fun q => UInt8.lt_asymm h q
  rw [List.drop_eq_getElem_cons ha, List.drop_eq_getElem_cons hb]
  simp [Lib.compareBytes, h, h2]
theorem cb_end (a b : List UInt8) (k : Nat) (h : a.length ≤ k ∨ b.length ≤ k) (ha : k ≤ a.length) (hb : k ≤ b.length) : (Lib.compareBytes (a.drop k) (b.drop k) < 0) ↔ a.length < b.length := by
  rcases h with h | h
  · rw [List.drop_eq_nil_of_le h]
    by_cases q : k < b.length
    · rw [List.drop_eq_getElem_cons q]; simp [Lib.compareBytes]; omega
    · rw [List.drop_eq_nil_of_le (by omega)]; simp [Lib.compareBytes]; omega
  · rw [List.drop_eq_nil_of_le h]
    by_cases q : k < a.length
    · rw [List.drop_eq_getElem_cons q]; simp [Lib.compareBytes]; omega
    · rw [List.drop_eq_nil_of_le (by omega)]; simp [Lib.compareBytes]; omega
end Go.Proofs.Ytcelpincmpjhkaa

/- Plain law of the document's Compare: the sign of cmpX. Conditions: none. -/
namespace Go.Proofs.Ytcelpincmpjhkaa
set_option linter.unusedSimpArgs false
set_option linter.unusedVariables false
theorem cmpX_f {xf yf : Int} {xg xb yg yb : ByteArray} (h : xf ≠ yf) : cmpX (xf, xg, xb) (yf, yg, yb) = cmpI xf yf := by
  have : cmpI xf yf ≠ 0 := fun e => h ((cmpI_ok.eq _ _).1 e)
  unfold cmpX lexC thenC; simp [this]
theorem cmpX_g {xf : Int} {xg xb yg yb : ByteArray} (h : xg ≠ yg) : cmpX (xf, xg, xb) (xf, yg, yb) = cmpB xg yg := by
  have h0 : cmpI xf xf = 0 := (cmpI_ok.eq _ _).2 rfl
  have : cmpB xg yg ≠ 0 := fun e => h ((cmpB_ok.eq _ _).1 e)
  unfold cmpX lexC thenC; simp [this, h0, lexC, thenC]
theorem cmpX_b {xf : Int} {xg xb yb : ByteArray} : cmpX (xf, xg, xb) (xf, xg, yb) = cmpB xb yb := by
  have h0 : cmpI xf xf = 0 := (cmpI_ok.eq _ _).2 rfl
  have h1 : cmpB xg xg = 0 := (cmpB_ok.eq _ _).2 rfl
  unfold cmpX lexC thenC; simp [h0, h1, lexC, thenC]
end Go.Proofs.Ytcelpincmpjhkaa
