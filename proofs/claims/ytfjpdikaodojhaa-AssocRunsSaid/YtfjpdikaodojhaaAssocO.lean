/- Document's side of chapter 18: posthouseref04.less. Conditions: texts of at most a million bytes. -/
import Derived.Test.YtfjpdikaodojhaaAssocN
import Derived.Test.YtfjpdikaodojhaaLessL
namespace Go.Proofs.Ytfjpdikaodojhaa
open Go.RowKit
set_option linter.unusedVariables false

theorem byte_at (a : ByteArray) (k : Nat) (h : k < a.size) : a[k] = a.data.toList[k]'(by simpa using h) := by simp [ByteArray.getElem_eq_getElem_data]

set_option maxRecDepth 100000 in
set_option maxHeartbeats 1600000 in
theorem less_any (w : World) (a b : ByteArray) (ha : a.size ≤ 1000000) (hb : b.size ≤ 1000000) :
    Calls Try.prog 47 #[.string a, .string b] w fun e w' => e = .returned (.bool (decide (cmpB a b < 0))) ∧ Below w.heap.size w w' := by
  have la : a.data.toList.length = a.size := by simp
  have lb : b.data.toList.length = b.size := by simp
  have la' := Lib.hid la; have lb' := Lib.hid lb; clear la lb
  go_enter Try.func47, Try.ntmps47
  go_wp2
  go_loopw [5] (fun s5 wr => ∃ k : Nat, k ≤ a.size ∧ k ≤ b.size ∧ s5 = .int .i64 k ∧ cmpB a b = Lib.compareBytes (a.data.toList.drop k) (b.data.toList.drop k) ∧ Below w.heap.size w wr) (fun s5 _ => a.size - (intOf s5).toNat)
  case atStart => exact ⟨0, by omega, by omega, rfl, rfl, Below.refl _ _⟩
  case round =>
    obtain ⟨k, hk, hk2, rfl, hc, hB⟩ := hrel
    have hc' := Lib.hid hc; clear hc
    by_cases h1 : k < a.size
    · by_cases h2 : k < b.size
      · have i1 : (0 : Int) ≤ (k : Int) ∧ (k : Int) < (a.size : Int) := by omega
        have i2 : (0 : Int) ≤ (k : Int) ∧ (k : Int) < (b.size : Int) := by omega
        have e1 := Lib.hid (byte_at a k h1)
        have e2 := Lib.hid (byte_at b k h2)
        have hab : k < a.data.toList.length := by rw [la'.out]; exact h1
        have hbb : k < b.data.toList.length := by rw [lb'.out]; exact h2
        have c1 := Lib.hid (cb_step a.data.toList b.data.toList k hab hbb)
        have c2 := Lib.hid (cb_lt a.data.toList b.data.toList k hab hbb)
        have c3 := Lib.hid (cb_gt a.data.toList b.data.toList k hab hbb)
        obtain ⟨p, hp⟩ : ∃ p, p = a.data.toList[k] := ⟨_, rfl⟩
        obtain ⟨q, hq⟩ : ∃ q, q = b.data.toList[k] := ⟨_, rfl⟩
        rw [← hp] at c1 c2 c3 e1
        rw [← hq] at c1 c2 c3 e2
        clear hp hq hab hbb
        have a1 := e1.out
        have a2 := e2.out
        by_cases hpq : p = q
        · have hn : ((a[k].toNat : Int) != (b[k].toNat : Int)) = false := by rw [a1, a2, hpq]; simp
          clear a1 a2
          go_wp2
          go_quiet (fail)
          go_wp2
          go_roundw
          case rel => exact ⟨k + 1, by omega, by omega, by go_num, by rw [hc'.out]; exact c1.out hpq, below_drewN hB _⟩
          case measure => simp [intOf]; omega
        · have hpn : p.toNat ≠ q.toNat := fun e => hpq (UInt8.toNat_inj.1 e)
          have hn : ((a[k].toNat : Int) != (b[k].toNat : Int)) = true := by rw [a1, a2]; simp; omega
          have hres : decide (a[k].toNat < b[k].toNat) = decide (cmpB a b < 0) := by
            rw [a1, a2, hc'.out]
            rcases Nat.lt_or_ge p.toNat q.toNat with l | l
            · rw [c2.out (UInt8.lt_iff_toNat_lt.2 l)]; simp; omega
            · rw [c3.out (UInt8.lt_iff_toNat_lt.2 (by omega))]; simp; omega
          have hres' := Lib.hid hres; clear hres a1 a2
          go_wp2
          go_quiet (fail)
          go_wp2
          go_quiet (fail)
          go_wp2
          go_ret
          exact ⟨by rw [← hres'.out]; rfl, below_drewN (below_drewN hB _) _⟩
      · have hE := Lib.hid (cb_end a.data.toList b.data.toList k (Or.inr (by rw [lb'.out]; omega)) (by rw [la'.out]; exact hk) (by rw [lb'.out]; exact hk2))
        go_wp2
        go_ret
        refine ⟨?_, hB⟩
        have := hE.out
        rw [← hc'.out, la'.out, lb'.out] at this
        simp [this]
    · have hE := Lib.hid (cb_end a.data.toList b.data.toList k (Or.inl (by rw [la'.out]; omega)) (by rw [la'.out]; exact hk) (by rw [lb'.out]; exact hk2))
      go_wp2
      go_ret
      refine ⟨?_, hB⟩
      have := hE.out
      rw [← hc'.out, la'.out, lb'.out] at this
      simp [this]
end Go.Proofs.Ytfjpdikaodojhaa
