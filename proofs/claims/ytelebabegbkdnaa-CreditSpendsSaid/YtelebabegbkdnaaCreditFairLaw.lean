/- Plain facts for the law CreditFair: names of one letter, all with endless credit, are served in turn. Conditions: at most ten names. -/
import Derived.Test.YtelebabegbkdnaaCreditF
namespace Go.Proofs.Ytelebabegbkdnaa
open Go.RowKit

def names : ByteArray := ⟨#[97, 98, 99, 100, 101, 102, 103, 104, 105, 106]⟩
def tg (i : Nat) : ByteArray := names.extract i (i + 1)
def full (k : Nat) : List Sub := (List.range k).map fun i => (tg i, 4294967295)
def mays (k : Nat) : List ByteArray := (List.range k).map tg
def toldOf (n k : Nat) : List ByteArray := (List.range k).map fun j => tg (j % n)
def nxAt (n k : Nat) : Nat := if k = 0 then 0 else (k - 1) % n + 1

theorem full_facts : ∀ k, k < 10 → (tg k).size = 1 ∧ findS (full k) (tg k) = none ∧ findS (full k ++ [(tg k, 0)]) (tg k) = some k ∧
    (full k ++ [(tg k, 0)])[k]? = some (tg k, 0) ∧ (full k ++ [(tg k, 0)]).set k (tg k, 4294967295) = full (k + 1) := by decide +kernel
theorem full_len (k : Nat) : (full k).length = k := by simp [full]
theorem mays_succ (k : Nat) : mays (k + 1) = mays k ++ [tg k] := by simp [mays, List.range_succ]
theorem told_succ (n k : Nat) : toldOf n (k + 1) = toldOf n k ++ [tg (k % n)] := by simp [toldOf, List.range_succ]
theorem told_get (n k i : Nat) (h : i < (toldOf n k).length) : (toldOf n k)[i] = tg (i % n) := by simp [toldOf]
theorem full_ok (k : Nat) : ∀ p ∈ full k, 0 ≤ p.2 ∧ p.2 ≤ 4294967295 := by
  intro p hp
  simp only [full, List.mem_map] at hp
  obtain ⟨i, _, rfl⟩ := hp
  simp
theorem tg_same : ∀ i, i < 10 → ∀ j, j < 10 → sameS (tg i) (tg j) = (i == j) := by decide +kernel
theorem turn_full : ∀ n, n < 11 → 0 < n → ∀ nx, nx < n + 1 → (turnOf (full n) nx (mays n)).map (·.1) = some (nx % n) := by decide +kernel
theorem spend_full : ∀ n, n < 11 → ∀ i, i < n → ((full n)[i]?).map (·.1) = some (tg i) ∧ (full n).set i (tg i, 4294967295) = full n ∧ ((full n)[i]?).map (·.2) = some 4294967295 := by decide +kernel
theorem nxAt_le {n : Nat} (hn : 0 < n) (k : Nat) : nxAt n k ≤ n := by
  unfold nxAt; split
  · omega
  · have := Nat.mod_lt (k - 1) hn; omega
theorem nxAt_mod {n : Nat} (hn : 0 < n) (k : Nat) : nxAt n k % n = k % n := by
  unfold nxAt; split
  · subst_vars; rfl
  · rename_i h
    rw [Nat.add_mod, Nat.mod_mod, ← Nat.add_mod]
    congr 1; omega
theorem nxAt_succ (n k : Nat) : nxAt n (k + 1) = k % n + 1 := by simp [nxAt]
theorem mod_apart {n k i : Nat} (hn : 0 < n) (h1 : i < k) (h2 : k < i + n) : i % n ≠ k % n := by
  intro h
  have h3 := Nat.sub_mod_eq_zero_of_mod_eq h.symm
  have h4 := Nat.mod_eq_of_lt (show k - i < n by omega)
  omega

end Go.Proofs.Ytelebabegbkdnaa
