/- Values: contracts as laws use them. Conditions: none. Written by gen_getL.py. (Texts joined; the heads of the others stand below.) -/
import Derived.Test.YtflglpbjapgciaaDoorKH
import Derived.Test.YtflglpbjapgciaaDoorKE
import Derived.Test.YtflglpbjapgciaaDoorKQ
import Derived.Test.YtflglpbjapgciaaDoorKX
import Derived.Test.YtflglpbjapgciaaDoorVal

/- The document's read, at every depth. Conditions: at most 200 values are left. -/
namespace Go.Proofs.YtflglpbjapgciaaDoor
set_option linter.unusedSimpArgs false
set_option linter.unusedVariables false
open Go.RowKit
end Go.Proofs.YtflglpbjapgciaaDoor

/- The document's Get. Conditions: the bytes are few enough to be in memory. Written by gen_getJ.py. -/
namespace Go.Proofs.YtflglpbjapgciaaDoor
set_option linter.unusedSimpArgs false
set_option linter.unusedVariables false
open Go.RowKit
theorem slc_cap {α : Type} {enc : α → List Value} {m : Nat} {w : World} {a : Option Addr} {n c : Nat} {L : List α} (h : Slc enc m w (.slice a n c) L) : n ≤ c := by
  rcases h with ⟨a', c', e, _, _⟩ | ⟨g, off, c', e, h1, h2, _⟩
  · simp only [Value.slice.injEq] at e; omega
  · simp only [Value.slice.injEq] at e; omega
theorem slc_take {α : Type} {enc : α → List Value} {m : Nat} {w : World} {a : Option Addr} {c n : Nat} {L : List α} (h : Slc enc m w (.slice a L.length c) L) (hn : n ≤ L.length) : Slc enc m w (.slice a n c) (L.take n) := by
  have hcap := slc_cap h
  rcases h with ⟨a', c', e, h1, rfl⟩ | ⟨g, off, c', e, h1, h2, h3⟩
  · simp only [Value.slice.injEq] at e
    obtain rfl : n = 0 := by simpa using hn
    exact .inl ⟨a, c, rfl, by rw [e.2.2]; exact h1, rfl⟩
  · simp only [Value.slice.injEq] at e
    obtain ⟨rfl, -, rfl⟩ := e
    have hl : (L.take n).length = n := by rw [List.length_take]; omega
    refine .inr ⟨g, off, c, by rw [hl], by rw [hl]; omega, h2, fun i hi j u hu => ?_⟩
    rw [List.getElem_take] at hu
    exact h3 i (by rw [hl] at hi; omega) j u hu
theorem str_eq {l l' : List UInt8} : (⟨l.toArray⟩ : ByteArray) = ⟨l'.toArray⟩ ↔ l = l' := by
  constructor
  · intro e
    have := congrArg (fun b : ByteArray => b.data.toList) e
    simpa using this
  · rintro rfl; rfl
theorem may_big {v : V} (h : v.chk = 0) : Big (v.bytes.length + 100) := by
  obtain ⟨-, h2, h3⟩ := chk_zero h
  have := bytes_len v h3 200 h2
  unfold Big; omega

end Go.Proofs.YtflglpbjapgciaaDoor

/- Values, plain: what Get tells, in one form. Conditions: none. Written by gen_getL.py. -/
namespace Go.Proofs.YtflglpbjapgciaaDoor
set_option linter.unusedSimpArgs false
set_option linter.unusedVariables false
/-- What Get tells, in one form: the value of nothing where there is none. -/
def getV (o : Option (V × Nat)) : V := match o with | some (x, _) => x | none => .mk 0 0 ⟨#[]⟩ [] []
def getN (o : Option (V × Nat)) : Nat := match o with | some (_, n) => n | none => 0
def getE (o : Option (V × Nat)) : Int := match o with | some _ => 0 | none => 5
end Go.Proofs.YtflglpbjapgciaaDoor

/- Values: contracts as laws use them. Conditions: none. Written by gen_getL.py. -/
namespace Go.Proofs.YtflglpbjapgciaaDoor
set_option linter.unusedSimpArgs false
set_option linter.unusedVariables false
open Go.RowKit
theorem dsame_yes {t u : VT} {P P2 : Nat → Prop} {w : World} (h : Rd P w t) (k : Rd P2 w u) (e : t.v = u.v) : Calls Tryd.prog 87 #[t.arg, u.arg] w fun r w' => r = .returned (.bool true) ∧ Below w.heap.size w w' :=
  (dsame_any t u P P2 w h k).mono fun r w' ⟨⟨b, hr, hb⟩, hB⟩ => ⟨by rw [hr, hb.2 e], hB⟩
theorem psame_yes {t u : VT} {P P2 : Nat → Prop} {w : World} (h : Rd P w t) (k : Rd P2 w u) (e : t.v = u.v) : Calls Tryd.prog 48 #[t.arg, u.arg] w fun r w' => r = .returned (.bool true) ∧ Below w.heap.size w w' :=
  (psame_any t u P P2 w h k).mono fun r w' ⟨⟨b, hr, hb⟩, hB⟩ => ⟨by rw [hr, hb.2 e], hB⟩
theorem psame_no {t u : VT} {P P2 : Nat → Prop} {w : World} (h : Rd P w t) (k : Rd P2 w u) (e : t.v ≠ u.v) : Calls Tryd.prog 48 #[t.arg, u.arg] w fun r w' => r = .returned (.bool false) ∧ Below w.heap.size w w' :=
  (psame_any t u P P2 w h k).mono fun r w' ⟨⟨b, hr, hb⟩, hB⟩ => ⟨by rw [hr]; cases b with | false => rfl | true => exact absurd (hb.1 rfl) e, hB⟩
theorem dsame_no {t u : VT} {P P2 : Nat → Prop} {w : World} (h : Rd P w t) (k : Rd P2 w u) (e : t.v ≠ u.v) : Calls Tryd.prog 87 #[t.arg, u.arg] w fun r w' => r = .returned (.bool false) ∧ Below w.heap.size w w' :=
  (dsame_any t u P P2 w h k).mono fun r w' ⟨⟨b, hr, hb⟩, hB⟩ => ⟨by rw [hr]; cases b with | false => rfl | true => exact absurd (hb.1 rfl) e, hB⟩
theorem VT.zero_rd {P : Nat → Prop} {w : World} : Rd P w VT.zero := Rd.leaf (by omega) (by omega) (by omega) (by omega)
theorem VT.zero_v : VT.zero.v = .mk 0 0 ⟨#[]⟩ [] [] := by simp [VT.zero, VT.v, VT.vL]
theorem getPost_one {w : World} {o : Option (V × Nat)} {e : Ending} {w' : World} (h : GetPost w o e w') : ∃ (tk tn : Int) (ts : ByteArray) (ka : Option Addr) (kc : Nat) (la : Option Addr) (lc : Nat) (tks : List ByteArray) (tl : List VT),
    e = .returned (.tuple #[.agg #[.int .u8 tk, .int .u64 tn, .string ts, .slice ka tks.length kc, .slice la tl.length lc], .int .i64 (getN o), .int .i64 (getE o)]) ∧ (VT.mk tk tn ts (.slice ka tks.length kc) (.slice la tl.length lc) tks tl).v = getV o ∧
    Rd (fun i => w.heap.size ≤ i) w' (VT.mk tk tn ts (.slice ka tks.length kc) (.slice la tl.length lc) tks tl) ∧ Below w.heap.size w w' := by
  match o, h with
  | none, ⟨he, hB⟩ => exact ⟨0, 0, ⟨#[]⟩, none, 0, none, 0, [], [], he, VT.zero_v, VT.zero_rd, hB⟩
  | some (x, n), ⟨t, he, hv, hR, hB⟩ =>
    obtain ⟨tk, tn, ts, ka, kc, la, lc, tks, tl, rfl, -⟩ := hR.open
    exact ⟨tk, tn, ts, ka, kc, la, lc, tks, tl, he, hv, hR, hB⟩
theorem pget_one (w : World) (v : Value) (L : List UInt8) (h : Slc byEnc 1 w v L) (hL : Big L.length) (hT : Tb w) : Calls Tryd.prog 63 #[v] w fun e w' => ∃ (tk tn : Int) (ts : ByteArray) (ka : Option Addr) (kc : Nat) (la : Option Addr) (lc : Nat) (tks : List ByteArray) (tl : List VT),
    e = .returned (.tuple #[.agg #[.int .u8 tk, .int .u64 tn, .string ts, .slice ka tks.length kc, .slice la tl.length lc], .int .i64 (getN (getP L)), .int .i64 (getE (getP L))]) ∧ (VT.mk tk tn ts (.slice ka tks.length kc) (.slice la tl.length lc) tks tl).v = getV (getP L) ∧
    Rd (fun i => w.heap.size ≤ i) w' (VT.mk tk tn ts (.slice ka tks.length kc) (.slice la tl.length lc) tks tl) ∧ Below w.heap.size w w' := (pget_any w v L h hL hT).mono fun e w' h => getPost_one h
end Go.Proofs.YtflglpbjapgciaaDoor
