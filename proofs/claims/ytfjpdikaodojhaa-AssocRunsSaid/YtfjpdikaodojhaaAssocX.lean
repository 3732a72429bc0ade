/- Chapter 18: lengths of what the calls leave, in plain lists. Conditions: none. -/
import Derived.Test.YtfjpdikaodojhaaAssocV
namespace Go.Proofs.Ytfjpdikaodojhaa
open Go.RowKit
theorem suspA_len (L : List Asc) (k : Nat) (b : Bool) : (suspA L k b).length = L.length := by
  unfold suspA; split <;> simp
theorem insA_len (L : List Asc) (k : Nat) (t : Asc) : (insA L k t).length = L.length + 1 := by
  unfold insA; simp; omega
theorem start_len (L : List Asc) (s : Int) (x : Xid) : (startF L s x).1.length ≤ L.length + 1 := by
  unfold startF; split
  · split
    · simp
    · split
      · simp only; rw [insA_len]; omega
      · simp
  · simp
theorem resume_len (L : List Asc) (s : Int) (x : Xid) : (resumeF L s x).1.length ≤ L.length + 1 := by
  unfold resumeF; split
  · split
    · simp
    · split
      · simp
      · simp only; rw [suspA_len]; omega
  · simp
theorem suspend_len (L : List Asc) (s : Int) (x : Xid) : (suspendF L s x).1.length ≤ L.length + 1 := by
  unfold suspendF; split
  · split
    · simp
    · split
      · simp
      · simp only; rw [suspA_len]; omega
  · simp
theorem end_len (L : List Asc) (s : Int) (x : Xid) : (endF L s x).1.length ≤ L.length + 1 := by
  unfold endF; split
  · split
    · simp
    · simp only; have := List.length_eraseIdx_le L (by assumption); omega
  · simp
theorem turn_len {a b : Nat} (h : a ≤ b + 1) (hb : b ≤ 1000000) (h30 : b ≤ 30 := by omega) : a ≤ 1000000 := by omega
theorem own_at {base : Nat} {e : TypeId} {w : World} {a : Option Addr} {n c : Nat} {N : List Asc} (h : Own base e 5 ascEnc w (.slice a n c) N) {k : Nat} (hk : k < N.length) : ∃ g, a = some ⟨g, 0, none⟩ ∧ base ≤ g := by
  obtain ⟨g, c, hv, hb, _⟩ := h.shape (fun e => by rw [e] at hk; simp at hk)
  simp only [Value.slice.injEq] at hv
  exact ⟨g, hv.1, hb⟩
end Go.Proofs.Ytfjpdikaodojhaa
