/- Values: contracts as laws use them. Conditions: none. Written by gen_getL.py. (Texts joined.) -/
import Derived.Test.YtlonokcaddpniaaGreatDoorKH
import Derived.Test.YtlonokcaddpniaaGreatDoorKB
import Derived.Test.YtlonokcaddpniaaGreatDoorKQ
import Derived.Test.YtlonokcaddpniaaGreatDoorKX
import Derived.Test.YtlonokcaddpniaaGreatDoorVal
set_option linter.unusedSimpArgs false
set_option linter.unusedVariables false
namespace Go.Proofs.YtlonokcaddpniaaGreatDoor
open Go.RowKit
theorem slc_cap {α : Type} {enc : α → List Value} {m : Nat} {w : World} {a : Option Addr} {n c : Nat} {L : List α} (h : Slc enc m w (.slice a n c) L) : n ≤ c := by
  rcases h with ⟨a', c', e, _, _⟩ | ⟨g, off, c', e, h1, h2, _⟩
  · simp only [Value.slice.injEq] at e; omega
  · simp only [Value.slice.injEq] at e; omega
end Go.Proofs.YtlonokcaddpniaaGreatDoor
namespace Go.Proofs.YtlonokcaddpniaaGreatDoor
/-- What Get tells, in one form: the value of nothing where there is none. -/
def getV (o : Option (V × Nat)) : V := match o with | some (x, _) => x | none => .mk 0 0 ⟨#[]⟩ [] []
def getN (o : Option (V × Nat)) : Nat := match o with | some (_, n) => n | none => 0
def getE (o : Option (V × Nat)) : Int := match o with | some _ => 0 | none => 5
end Go.Proofs.YtlonokcaddpniaaGreatDoor
namespace Go.Proofs.YtlonokcaddpniaaGreatDoor
open Go.RowKit
theorem dsame_yes {t u : VT} {P P2 : Nat → Prop} {w : World} (h : Rd P w t) (k : Rd P2 w u) (e : t.v = u.v) : Calls Tryz.prog 106 #[t.arg, u.arg] w fun r w' => r = .returned (.bool true) ∧ Below w.heap.size w w' :=
  (dsame_any t u P P2 w h k).mono fun r w' ⟨⟨b, hr, hb⟩, hB⟩ => ⟨by rw [hr, hb.2 e], hB⟩
theorem psame_yes {t u : VT} {P P2 : Nat → Prop} {w : World} (h : Rd P w t) (k : Rd P2 w u) (e : t.v = u.v) : Calls Tryz.prog 134 #[t.arg, u.arg] w fun r w' => r = .returned (.bool true) ∧ Below w.heap.size w w' :=
  (psame_any t u P P2 w h k).mono fun r w' ⟨⟨b, hr, hb⟩, hB⟩ => ⟨by rw [hr, hb.2 e], hB⟩
theorem psame_no {t u : VT} {P P2 : Nat → Prop} {w : World} (h : Rd P w t) (k : Rd P2 w u) (e : t.v ≠ u.v) : Calls Tryz.prog 134 #[t.arg, u.arg] w fun r w' => r = .returned (.bool false) ∧ Below w.heap.size w w' :=
  (psame_any t u P P2 w h k).mono fun r w' ⟨⟨b, hr, hb⟩, hB⟩ => ⟨by rw [hr]; cases b with | false => rfl | true => exact absurd (hb.1 rfl) e, hB⟩
theorem dsame_no {t u : VT} {P P2 : Nat → Prop} {w : World} (h : Rd P w t) (k : Rd P2 w u) (e : t.v ≠ u.v) : Calls Tryz.prog 106 #[t.arg, u.arg] w fun r w' => r = .returned (.bool false) ∧ Below w.heap.size w w' :=
  (dsame_any t u P P2 w h k).mono fun r w' ⟨⟨b, hr, hb⟩, hB⟩ => ⟨by rw [hr]; cases b with | false => rfl | true => exact absurd (hb.1 rfl) e, hB⟩
theorem VT.zero_rd {P : Nat → Prop} {w : World} : Rd P w VT.zero := Rd.leaf (by omega) (by omega) (by omega) (by omega)
theorem VT.zero_v : VT.zero.v = .mk 0 0 ⟨#[]⟩ [] [] := by simp [VT.zero, VT.v, VT.vL]
theorem getPost_one {w : World} {o : Option (V × Nat)} {e : Ending} {w' : World} (h : GetPost w o e w') : ∃ (tk tn : Int) (ts : ByteArray) (ka : Option Addr) (kc : Nat) (la : Option Addr) (lc : Nat) (tks : List ByteArray) (tl : List VT),
    e = .returned (.tuple #[.agg #[.int .u8 tk, .int .u64 tn, .string ts, .slice ka tks.length kc, .slice la tl.length lc], .int .i64 (getN o), .int .i64 (getE o)]) ∧ (VT.mk tk tn ts (.slice ka tks.length kc) (.slice la tl.length lc) tks tl).v = getV o ∧
    Rd (fun i => w.heap.size ≤ i) w' (VT.mk tk tn ts (.slice ka tks.length kc) (.slice la tl.length lc) tks tl) ∧ Below w.heap.size w w' := by
  match o, h with
  | none, ⟨he, hB⟩ => exact ⟨0, 0, ⟨#[]⟩, none, 0, none, 0, [], [], he, VT.zero_v, VT.zero_rd, hB⟩
  | some (x, n), ⟨t, he, hv, hR, hB⟩ =>
    obtain ⟨tk, tn, ts, ka, kc, la, lc, tks, tl, rfl, -⟩ := hR.open; exact ⟨tk, tn, ts, ka, kc, la, lc, tks, tl, he, hv, hR, hB⟩
end Go.Proofs.YtlonokcaddpniaaGreatDoor
