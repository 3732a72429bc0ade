/- Chapter 19: the table's rows as elements of a slice. Conditions: none. -/
import Derived.Test.YtcelpincmpjhkaaBrA
namespace Go.Proofs.Ytcelpincmpjhkaa
open Go.RowKit
set_option linter.unusedVariables false
theorem info_br : (Try.prog.info? 44).map (fun i => (i.zero, i.size, i.bytes)) = some (some (.agg #[.int .u32 0, .string ⟨#[]⟩, .string ⟨#[]⟩, .int .u8 0, .int .u8 0, .int .u32 0, .int .u32 0]), 7, 56) := by kernel_rfl
theorem elem_br : ElemT Try.prog 22 44 7 56 := ElemT.mk' Try.underlying22 info_br rfl (by omega)
theorem br_cells {w : World} {g off n cap k : Nat} {L : List Brn} (h : Slc brEnc 7 w (.slice (some ⟨g, off, none⟩) n cap) L) (hk : k < L.length) :
    w.cell? ⟨g, off + k * 7, none⟩ = some (.int .u32 L[k].x.1) ∧ w.cell? ⟨g, off + k * 7 + 1, none⟩ = some (.string L[k].x.2.1) ∧ w.cell? ⟨g, off + k * 7 + 2, none⟩ = some (.string L[k].x.2.2) ∧ w.cell? ⟨g, off + k * 7 + 3, none⟩ = some (.int .u8 L[k].st) ∧ w.cell? ⟨g, off + k * 7 + 4, none⟩ = some (.int .u8 L[k].why) ∧ w.cell? ⟨g, off + k * 7 + 5, none⟩ = some (.int .u32 L[k].tm) ∧ w.cell? ⟨g, off + k * 7 + 6, none⟩ = some (.int .u32 L[k].lf) :=
  ⟨h.get k hk 0 _ rfl, h.get k hk 1 _ rfl, h.get k hk 2 _ rfl, h.get k hk 3 _ rfl, h.get k hk 4 _ rfl, h.get k hk 5 _ rfl, h.get k hk 6 _ rfl⟩

theorem must_ok (w : World) (e : Int) : Calls Try.prog 50 #[.bool true, .int .i64 e] w fun r w' => r = .returned (.tuple #[]) ∧ w = w' := by
  go_enter Try.func50, Try.ntmps50
  go_wp2
  go_end0
  exact ⟨rfl, rfl⟩
theorem must_no (w : World) (e : Int) : Calls Try.prog 50 #[.bool false, .int .i64 e] w fun r w' => r = .panicked [{ v := .iface 36 (.int .i64 e), recovered := false }] ∧ w = w' := by
  go_enter Try.func50, Try.ntmps50
  go_wp2
  exact ⟨rfl, rfl, rfl⟩
end Go.Proofs.Ytcelpincmpjhkaa
