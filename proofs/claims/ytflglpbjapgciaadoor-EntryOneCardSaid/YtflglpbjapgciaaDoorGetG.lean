/- The document's reader of values: values without values in them. Conditions: at most 200 values are left. Written by gen_getF.py. -/
import Derived.Test.YtflglpbjapgciaaDoorKM
namespace Go.Proofs.YtflglpbjapgciaaDoor
set_option linter.unusedSimpArgs false
set_option linter.unusedVariables false
open Go.RowKit

/-- The document's reading behind the kind. -/
def rdDk (d : Nat) (k : Nat) (left : Int) (b1 : List UInt8) : Option (V × Int × List UInt8) :=
  if k = 8 ∨ k = 2 then (gN 1 b1).bind fun x => some (.mk k x.1 ByteArray.empty [] [], left, x.2)
  else if k = 49 ∨ k = 50 then (gN 8 b1).bind fun x => some (.mk k x.1 ByteArray.empty [] [], left, x.2)
  else if k = 149 then (gT 2 4096 b1).bind fun x => some (.mk k 0 x.1 [] [], left, x.2)
  else if k = 160 then (gT 4 4096 b1).bind fun x => some (.mk k 0 x.1 [] [], left, x.2)
  else if k = 168 ∨ k = 169 then
    (gN 4 b1).bind fun x => (gN 4 x.2).bind fun y =>
    (rdMany (rdD d) (k == 168) (min y.1 200) left y.2).bind fun z => some (.mk k 0 ByteArray.empty z.1 z.2.1, z.2.2.1, z.2.2.2)
  else some (.mk k 0 ByteArray.empty [] [], left, b1)
theorem rdD_k {d k : Nat} {left : Int} {b b1 : List UInt8} (hg : gN 1 b = some (k, b1)) (hl : 0 ≤ left - 1) : rdD (d + 1) left b = rdDk d k (left - 1) b1 := by
  unfold rdD; rw [hg, Option.bind_some]; show (if left - 1 < 0 then none else _) = _; rw [if_neg (by omega)]; rfl
theorem u8_wrap (k : Nat) (h : k < 256) : IntKind.u8.wrap (k : Int) = (k : Int) := by
  have e : IntKind.u8.wrap (k : Int) = (k : Int) % 256 := rfl
  rw [e]; omega

end Go.Proofs.YtflglpbjapgciaaDoor
