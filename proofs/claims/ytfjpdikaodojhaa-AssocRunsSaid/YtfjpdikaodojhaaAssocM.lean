/- Document's side of chapter 18: Same at equal rows. Conditions: at most a million. -/
import Derived.Test.YtfjpdikaodojhaaAssocK
namespace Go.Proofs.Ytfjpdikaodojhaa
open Go.RowKit
set_option linter.unusedVariables false

set_option maxHeartbeats 800000 in
theorem asc_neq_self (w : World) (s xf : Int) (xg xb : ByteArray) (p : Bool) : (binOp .neq 37 (.agg #[.int .u64 s, .int .u32 xf, .string xg, .string xb, .bool p]) (.agg #[.int .u64 s, .int .u32 xf, .string xg, .string xb, .bool p])).run Try.prog w = .ok (.bool false) w := by
  have hf : Try.prog.fieldsOf 37 = (match Try.prog.underlying 37 with | some (.struct fs) => fs | _ => #[]) := rfl
  rw [Try.underlying37] at hf
  simp only at hf
  have hf2 : Try.prog.fieldsOf 26 = (match Try.prog.underlying 26 with | some (.struct fs) => fs | _ => #[]) := rfl
  rw [Try.underlying26] at hf2
  simp only at hf2
  rw [run_neq_struct, show (10000 : Nat) = 9999 + 1 from rfl, run_equalIn_agg w 9999 _ _ _ (by rw [hf]; exact Try.underlying37) (by kernel_rfl), hf]
  cases p <;> simp [go_sem, bytes_beq, bytes_self, hf2]

set_option maxRecDepth 100000 in
set_option maxHeartbeats 1600000 in
theorem same_eq (w : World) (u v : Value) (L : List Asc) (hu : Slc ascEnc 5 w u L) (hv : Slc ascEnc 5 w v L) (hL : L.length ≤ 1000000) :
    Calls Try.prog 22 #[u, v] w fun e w' => e = .returned (.bool true) ∧ Below w.heap.size w w' := by
  obtain ⟨a, cap, rfl, hm⟩ := hu.len
  obtain ⟨b, cbp, rfl, _⟩ := hv.len
  unfold maxLen at hm
  go_enter Try.func22, Try.ntmps22
  go_wp2
  go_loopw [5] (fun s5 wr => ∃ k : Nat, k ≤ L.length ∧ s5 = .int .i64 k ∧ Below w.heap.size w wr) (fun s5 _ => L.length - (intOf s5).toNat)
  case atStart => exact ⟨0, by omega, rfl, Below.refl _ _⟩
  case round =>
    obtain ⟨k, hk, rfl, hB⟩ := hrel
    by_cases hlt : k < L.length
    · have hur := hu.pure hB
      have hvr := hv.pure hB
      obtain ⟨g, off, rfl⟩ := hur.addr hlt
      obtain ⟨h, oft, rfl⟩ := hvr.addr hlt
      obtain ⟨c0, c1, c2, c3, c4⟩ := asc_cells hur hlt
      obtain ⟨d0, d1, d2, d3, d4⟩ := asc_cells hvr hlt
      have hqn := fun (x : World) => asc_neq_self x L[k].1 L[k].2.1.1 L[k].2.1.2.1 L[k].2.1.2.2 L[k].2.2
      go_wp2
      go_quiet (fail)
      go_wp2
      go_roundw
      case rel => exact ⟨k + 1, by omega, by go_num, below_drewN hB _⟩
      case measure => simp [intOf]; omega
    · obtain rfl : k = L.length := by omega
      go_wp2
      go_ret
      exact ⟨rfl, hB⟩
end Go.Proofs.Ytfjpdikaodojhaa
