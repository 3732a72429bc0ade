/- Branches compared by '!='. Conditions: none. -/
import Derived.Test.YtcelpincmpjhkaaHA
namespace Go.Proofs.Ytcelpincmpjhkaa
set_option linter.unusedSimpArgs false
set_option linter.unusedVariables false
open Go.RowKit
set_option maxRecDepth 100000 in
set_option maxHeartbeats 6400000 in
theorem br_neq_any (w : World) (a a' : Int) (b c b' c' : ByteArray) (d e f g d' e' f' g' : Int) : (binOp .neq 44 (.agg #[.int .u32 a, .string b, .string c, .int .u8 d, .int .u8 e, .int .u32 f, .int .u32 g]) (.agg #[.int .u32 a', .string b', .string c', .int .u8 d', .int .u8 e', .int .u32 f', .int .u32 g'])).run Try.prog w = .ok (.bool (!((a == a' && (b == b' && c == c')) && (d == d' && (e == e' && (f == f' && g == g')))))) w := by
  have hf : Try.prog.fieldsOf 44 = (match Try.prog.underlying 44 with | some (.struct fs) => fs | _ => #[]) := rfl
  rw [Try.underlying44] at hf
  simp only at hf
  have hf2 : Try.prog.fieldsOf 28 = (match Try.prog.underlying 28 with | some (.struct fs) => fs | _ => #[]) := rfl
  rw [Try.underlying28] at hf2
  simp only at hf2
  rw [run_neq_struct, show (10000 : Nat) = 9999 + 1 from rfl, run_equalIn_agg w 9999 _ _ _ (by rw [hf]; exact Try.underlying44) (by kernel_rfl), hf]
  cases h0 : (a == a')
  · simp [go_sem, bytes_beq, h0, hf2]
  cases h1 : (b == b')
  · simp [go_sem, bytes_beq, h0, h1, hf2]
  cases h2 : (c == c')
  · simp [go_sem, bytes_beq, h0, h1, h2, hf2]
  cases h3 : (d == d')
  · simp [go_sem, bytes_beq, h0, h1, h2, h3, hf2]
  cases h4 : (e == e')
  · simp [go_sem, bytes_beq, h0, h1, h2, h3, h4, hf2]
  cases h5 : (f == f')
  · simp [go_sem, bytes_beq, h0, h1, h2, h3, h4, h5, hf2]
  cases h6 : (g == g') <;> simp [go_sem, bytes_beq, h0, h1, h2, h3, h4, h5, h6, hf2]
theorem br_neq_same (w : World) (a : Int) (b c : ByteArray) (d e f g : Int) : (binOp .neq 44 (.agg #[.int .u32 a, .string b, .string c, .int .u8 d, .int .u8 e, .int .u32 f, .int .u32 g]) (.agg #[.int .u32 a, .string b, .string c, .int .u8 d, .int .u8 e, .int .u32 f, .int .u32 g])).run Try.prog w = .ok (.bool false) w := by
  rw [br_neq_any]; simp [bytes_self]
end Go.Proofs.Ytcelpincmpjhkaa
