/- Equality of strings. Conditions: none. -/
import Derived.Test.YtgpdbifgbabnnaaOwn
namespace Go.Proofs.Ytgpdbifgbabnnaa
open Go.RowKit
def sameS (a b : ByteArray) : Bool := a.toList == b.toList
theorem sameS_iff {a b : ByteArray} : sameS a b = true ↔ a = b := same_iff a b
theorem sameS_no {a b : ByteArray} : sameS a b = false ↔ a ≠ b := by rw [Bool.eq_false_iff, ne_eq, ne_eq, sameS_iff]
def idxOf (o : Option Nat) : Int := match o with | some i => (i : Int) | none => -1
def strEnc (s : ByteArray) : List Value := [.string s]
theorem strEnc_len (p : ByteArray) : (strEnc p).length = 1 := rfl
theorem strEnc_one (p : ByteArray) : ∀ u ∈ strEnc p, u.oneCell' = true := by simp [strEnc, Value.oneCell']
end Go.Proofs.Ytgpdbifgbabnnaa
