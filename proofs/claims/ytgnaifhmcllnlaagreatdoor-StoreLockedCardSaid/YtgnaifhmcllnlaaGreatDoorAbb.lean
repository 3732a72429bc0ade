/- Short names. Conditions: none. -/
import Derived.WalkKit
import Derived.Lib.Hide
namespace Go.Proofs.YtgnaifhmcllnlaaGreatDoor
open Go.RowKit
theorem qq {P : Prop} (h : P) : Hid P := Lib.hid h
theorem qj (n : Nat) : n ≤ n := Nat.le_refl n
theorem qz (B : Nat) (w : World) : Below B w w := Below.refl B w
theorem qy {A : Type _} {l : List A} {n : Nat} (h : n < l.length) : l[n] ∈ l := List.getElem_mem h
theorem qw {c : Prop} {h : Decidable c} (A : c) {D : Sort _} {t e : D} : ite c t e = t := if_pos A
theorem qk {c : Prop} {h : Decidable c} (A : ¬ c) {D : Sort _} {t e : D} : ite c t e = e := if_neg A
theorem qg {p : Prop} [Decidable p] (h : ¬ p) : decide p = false := decide_eq_false h
theorem qp {p : Prop} [Decidable p] (h : p) : decide p = true := decide_eq_true h
theorem qm {p : Prop} [Decidable p] : (decide p = true) = p := decide_eq_true_eq
theorem qt {p : Prop} [Decidable p] (h : decide p = true) : p := of_decide_eq_true h
theorem jq {p : Prop} [Decidable p] (h : decide p = false) : ¬ p := of_decide_eq_false h
theorem jj (a b : Bool) : ((a && b) = true) = (a = true ∧ b = true) := Bool.and_eq_true a b
theorem jz {A : Type _} {s t : List A} : (s ++ t).length = s.length + t.length := List.length_append
theorem jx {A : Type _} {i : Nat} {l : List A} (h : i < l.length) : l.take (i + 1) = l.take i ++ [l[i]] := List.take_succ_eq_append_getElem h
theorem jy {A : Type _} (a b : A) : (some a = some b) = (a = b) := Option.some.injEq a b
theorem ju {A : Type _} [BEq A] [LawfulBEq A] {a b : A} : (a == b) = false ↔ a ≠ b := beq_eq_false_iff_ne
theorem jv {A D : Type _} {b : D} {f : A → D} {l : List A} : b ∈ l.map f ↔ ∃ a, a ∈ l ∧ f a = b := List.mem_map
theorem jw {A D : Type _} {l : List A} {a : A} {f : A → D} (h : a ∈ l) : f a ∈ l.map f := List.mem_map_of_mem h
theorem jk {n m k : Nat} (h : n ≤ m) (A : m ≤ k) : n ≤ k := Nat.le_trans h A
theorem jg {n m k : Nat} (h : n < m) (A : m ≤ k) : n < k := Nat.lt_of_lt_of_le h A
theorem jf {A D : Type _} {as : List A} (f : A → D) : (as.map f).length = as.length := List.length_map f
theorem jn {A : Type _} {a : A} {as : List A} : (a :: as).length = as.length + 1 := List.length_cons
theorem jp {a b : Prop} (h : a) (g : ¬ a) : b := absurd h g
theorem jm {A D : Type _} (a : A) (b : D) (c : A) (d : D) : ((a, b) = (c, d)) = (a = c ∧ b = d) := Prod.mk.injEq a b c d
theorem jd {A : Type _} {l : List A} {i : Nat} {a b : A} (h : a ∈ l.set i b) : a ∈ l ∨ a = b := List.mem_or_eq_of_mem_set h
theorem jc {A : Type _} {a b : A} : a ∈ [b] ↔ a = b := List.mem_singleton
theorem js {A : Type _} {l : List A} : l.take l.length = l := List.take_length
theorem jt {A : Type _} {l : List A} {p : A → Bool} : l.all p = true ↔ ∀ x, x ∈ l → p x = true := List.all_eq_true
theorem zq {A D : Type _} (f : A → D) {l : List A} {i : Nat} {h : i < (l.map f).length} : (l.map f)[i] = f (l[i]'(List.length_map (as := l) f ▸ h)) := List.getElem_map f
theorem zj {A : Sort _} (t : A) : ∃ y, y = t := ⟨t, rfl⟩
theorem qx {A : Sort _} (t : A) : ∃ y, t = y := ⟨t, rfl⟩
end Go.Proofs.YtgnaifhmcllnlaaGreatDoor
