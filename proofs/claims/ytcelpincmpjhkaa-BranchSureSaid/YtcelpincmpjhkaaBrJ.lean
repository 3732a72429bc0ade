/- Package branch: the deferred closure of 'on'. Conditions: its three variables are there. -/
import Derived.Test.YtcelpincmpjhkaaBrI
import Derived.Defers
import Derived.Recover
namespace Go.Proofs.Ytcelpincmpjhkaa
open Go.RowKit
set_option linter.unusedVariables false
abbrev pent (e : Int) (r : Bool) : PanicEntry := { v := .iface 36 (.int .i64 e), recovered := r }
theorem errno_is (w : World) (v : Value) : (Instr.typeAssert (.iface 36 v) 20 36 false).run Try.prog w = .ok v w := by kernel_rfl
abbrev OnS (b : Nat) : Nat → Prop := fun k => k = b ∨ k = b + 1 ∨ k = b + 1 + 1

set_option maxRecDepth 100000 in
theorem on1_idle (w : World) (b : Nat) :
    CallsD Try.prog 98 #[.pointer (some ⟨b, 0, none⟩), .pointer (some ⟨b + 1, 0, none⟩), .pointer (some ⟨b + 1 + 1, 0, none⟩)] .returning w fun e u' w' => e = .returned (.tuple #[]) ∧ u' = .returning ∧ w' = w := by
  refine callsD_of_wpS Try.func98 rfl fun c₀ cs hu => ?_
  show Code.wpS Try.prog _ _ { tmps := #[.pointer (some ⟨b, 0, none⟩), .pointer (some ⟨b + 1, 0, none⟩), .pointer (some ⟨b + 1 + 1, 0, none⟩), undef, undef, undef, undef, undef, undef, undef], defers := [] } _ _
  apply wpS_seq
  apply wpS_region
  simp [wpOpsS, go_sem, recoverD, hu, Exit.thenS]
  refine wpS_of_wp ?_
  go_wp2
  cases c₀
  simp_all [bodyPostS, results, Try.results98]

set_option maxRecDepth 100000 in
theorem on1_panicking (w : World) (b : Nat) (e : Int) (v1 v2 : Value) (v3 v4 : Value) (h1 : Blk w b [v1, v2]) (h2 : Blk w (b + 1) [v3]) (h3 : Blk w (b + 1 + 1) [v4]) :
    CallsD Try.prog 98 #[.pointer (some ⟨b, 0, none⟩), .pointer (some ⟨b + 1, 0, none⟩), .pointer (some ⟨b + 1 + 1, 0, none⟩)] (.panicking [pent e false]) w fun r u' w' => r = .returned (.tuple #[]) ∧ u' = .panicking [pent e true] ∧ Blk w' b [.slice none 0 0, .slice none 0 0] ∧ Blk w' (b + 1) [.int .u8 0] ∧ Blk w' (b + 1 + 1) [.int .i64 e] ∧ Upd (OnS b) w w' := by
  have c0 := h1.at 0 rfl
  have c1 := h1.at 1 rfl
  have c2 := h2.at 0 rfl
  have c3 := h3.at 0 rfl
  have f0 := h1.frozen 0
  have f1 := h1.frozen 1
  have f2 := h2.frozen 0
  have f3 := h3.frozen 0
  refine callsD_of_wpS Try.func98 rfl fun c₀ cs hu => ?_
  show Code.wpS Try.prog _ _ { tmps := #[.pointer (some ⟨b, 0, none⟩), .pointer (some ⟨b + 1, 0, none⟩), .pointer (some ⟨b + 1 + 1, 0, none⟩), undef, undef, undef, undef, undef, undef, undef], defers := [] } _ _
  apply wpS_seq
  apply wpS_region
  simp [wpOpsS, go_sem, recoverD, hu, Exit.thenS]
  refine wpS_of_wp ?_
  have hta := errno_is
  go_wp2
  go_region
  go_wp2
  have t0 := (((h1.set 0 (.slice none 0 0)).set 1 (.slice none 0 0)).other ⟨b + 1, 0, none⟩ (.int .u8 0) (by simp only; omega)).other ⟨b + 1 + 1, 0, none⟩ (.int .i64 e) (by simp only; omega)
  have t1 := (((h2.other ⟨b, 0, none⟩ (.slice none 0 0) (by simp only; omega)).other ⟨b, 1, none⟩ (.slice none 0 0) (by simp only; omega)).set 0 (.int .u8 0)).other ⟨b + 1 + 1, 0, none⟩ (.int .i64 e) (by simp only; omega)
  have t2 := (((h3.other ⟨b, 0, none⟩ (.slice none 0 0) (by simp only; omega)).other ⟨b, 1, none⟩ (.slice none 0 0) (by simp only; omega)).other ⟨b + 1, 0, none⟩ (.int .u8 0) (by simp only; omega)).set 0 (.int .i64 e)
  refine ⟨rfl, _, rfl, _, results_none rfl _ _ _, rfl, rfl, t0, t1, t2, ?_⟩
  refine Upd.drew ?_
  exact (((Upd.set (S := OnS b) (p := ⟨b, 0, none⟩) (Or.inl rfl) _).trans (Upd.set (S := OnS b) (p := ⟨b, 1, none⟩) (Or.inl rfl) _) (fun _ h _ => h)).trans (Upd.set (S := OnS b) (p := ⟨b + 1, 0, none⟩) (Or.inr (Or.inl rfl)) _) (fun _ h _ => h)).trans (Upd.set (S := OnS b) (p := ⟨b + 1 + 1, 0, none⟩) (Or.inr (Or.inr rfl)) _) (fun _ h _ => h)
end Go.Proofs.Ytcelpincmpjhkaa
