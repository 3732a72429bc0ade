/- Document's side of chapter 18: posthouseref04.Check. Conditions: none. -/
import Derived.Test.YtfjpdikaodojhaaAssocI
import Derived.BigQuiet
namespace Go.Proofs.Ytfjpdikaodojhaa
open Go.RowKit
set_option linter.unusedVariables false

set_option maxRecDepth 100000 in
set_option maxHeartbeats 1600000 in
theorem rcheck4 (w : World) (y : Xid) (v : Int) (h : (if XidOk y then (0 : Int) else 40) = v) :
    Calls Try.prog 32 #[.agg #[.int .u32 y.1, .string y.2.1, .string y.2.2]] w fun e w' => e = .returned (.int .i64 v) ∧ Below w.heap.size w w' := by
  obtain ⟨yf, yg, yb⟩ := y
  simp only
  have hB0 := (Below.refl w.heap.size w).alloc (Nat.le_refl _) (.cells #[.int .u32 yf, .string yg, .string yb] 26)
  by_cases h1 : 0 < yg.size
  · have i1 : ¬ (yg.size : Int) < 1 := by omega
    by_cases h2 : yg.size ≤ 64
    · have i2 : ¬ (64 : Int) < (yg.size : Int) := by omega
      by_cases h3 : yb.size ≤ 64
      · have i3 : ¬ (64 : Int) < (yb.size : Int) := by omega
        rw [if_pos (show XidOk (yf, yg, yb) from ⟨h1, h2, h3⟩)] at h
        have hh := Lib.hid h.symm; clear h
        go_enter Try.func32, Try.ntmps32
        go_wp2
        go_ret
        exact ⟨by rw [hh.out]; rfl, hB0⟩
      · have i3 : (64 : Int) < (yb.size : Int) := by omega
        rw [if_neg (fun q : XidOk (yf, yg, yb) => h3 q.2.2)] at h
        have hh := Lib.hid h.symm; clear h
        go_enter Try.func32, Try.ntmps32
        go_wp2
        go_ret
        exact ⟨by rw [hh.out]; rfl, hB0⟩
    · have i2 : (64 : Int) < (yg.size : Int) := by omega
      rw [if_neg (fun q : XidOk (yf, yg, yb) => h2 q.2.1)] at h
      have hh := Lib.hid h.symm; clear h
      go_enter Try.func32, Try.ntmps32
      go_wp2
      go_ret
      exact ⟨by rw [hh.out]; rfl, hB0⟩
  · have i1 : (yg.size : Int) < 1 := by omega
    rw [if_neg (fun q : XidOk (yf, yg, yb) => h1 q.1)] at h
    have hh := Lib.hid h.symm; clear h
    go_enter Try.func32, Try.ntmps32
    go_wp2
    go_ret
    exact ⟨by rw [hh.out]; rfl, hB0⟩
end Go.Proofs.Ytfjpdikaodojhaa
