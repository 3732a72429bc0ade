/- Short names. Conditions: none. -/
import Derived.WalkKit
import Derived.Lib.Hide
namespace Go.Proofs.YtgnaifhmcllnlaaGreatDoor
open Go.RowKit
theorem qq {P : Prop} (h : P) : Hid P := Lib.hid h
theorem qj (n : Nat) : n ≤ n := Nat.le_refl n
theorem qz (B : Nat) (w : World) : Below B w w := Below.refl B w
theorem qy {α : Type _} {l : List α} {n : Nat} (h : n < l.length) : l[n] ∈ l := List.getElem_mem h
theorem qw {c : Prop} {h : Decidable c} (hc : c) {α : Sort _} {t e : α} : ite c t e = t := if_pos hc
theorem qk {c : Prop} {h : Decidable c} (hc : ¬ c) {α : Sort _} {t e : α} : ite c t e = e := if_neg hc
theorem qg {p : Prop} [Decidable p] (h : ¬ p) : decide p = false := decide_eq_false h
theorem qp {p : Prop} [Decidable p] (h : p) : decide p = true := decide_eq_true h
theorem qm {p : Prop} [Decidable p] : (decide p = true) = p := decide_eq_true_eq
theorem qt {p : Prop} [Decidable p] (h : decide p = true) : p := of_decide_eq_true h
theorem jq {p : Prop} [Decidable p] (h : decide p = false) : ¬ p := of_decide_eq_false h
theorem jj (a b : Bool) : ((a && b) = true) = (a = true ∧ b = true) := Bool.and_eq_true a b
theorem jz {α : Type _} {s t : List α} : (s ++ t).length = s.length + t.length := List.length_append
theorem jx {α : Type _} {i : Nat} {l : List α} (h : i < l.length) : l.take (i + 1) = l.take i ++ [l[i]] := List.take_succ_eq_append_getElem h
theorem jy {α : Type _} (a b : α) : (some a = some b) = (a = b) := Option.some.injEq a b
theorem ju {α : Type _} [BEq α] [LawfulBEq α] {a b : α} : (a == b) = false ↔ a ≠ b := beq_eq_false_iff_ne
theorem jv {α β : Type _} {b : β} {f : α → β} {l : List α} : b ∈ l.map f ↔ ∃ a, a ∈ l ∧ f a = b := List.mem_map
theorem jw {α β : Type _} {l : List α} {a : α} {f : α → β} (h : a ∈ l) : f a ∈ l.map f := List.mem_map_of_mem h
theorem jk {n m k : Nat} (h : n ≤ m) (h2 : m ≤ k) : n ≤ k := Nat.le_trans h h2
theorem jg {n m k : Nat} (h : n < m) (h2 : m ≤ k) : n < k := Nat.lt_of_lt_of_le h h2
theorem jf {α β : Type _} {as : List α} (f : α → β) : (as.map f).length = as.length := List.length_map f
theorem jn {α : Type _} {a : α} {as : List α} : (a :: as).length = as.length + 1 := List.length_cons
theorem jp {a b : Prop} (h : a) (g : ¬ a) : b := absurd h g
theorem jm {α β : Type _} (a : α) (b : β) (c : α) (d : β) : ((a, b) = (c, d)) = (a = c ∧ b = d) := Prod.mk.injEq a b c d
theorem jd {α : Type _} {l : List α} {i : Nat} {a b : α} (h : a ∈ l.set i b) : a ∈ l ∨ a = b := List.mem_or_eq_of_mem_set h
theorem jc {α : Type _} {a b : α} : a ∈ [b] ↔ a = b := List.mem_singleton
theorem js {α : Type _} {l : List α} : l.take l.length = l := List.take_length
theorem jt {α : Type _} {l : List α} {p : α → Bool} : l.all p = true ↔ ∀ x, x ∈ l → p x = true := List.all_eq_true
theorem zq {α β : Type _} (f : α → β) {l : List α} {i : Nat} {h : i < (l.map f).length} : (l.map f)[i] = f (l[i]'(List.length_map (as := l) f ▸ h)) := List.getElem_map f
theorem zj {α : Sort _} (t : α) : ∃ y, y = t := ⟨t, rfl⟩
theorem zz {α : Sort _} (t : α) : ∃ y, t = y := ⟨t, rfl⟩
end Go.Proofs.YtgnaifhmcllnlaaGreatDoor
