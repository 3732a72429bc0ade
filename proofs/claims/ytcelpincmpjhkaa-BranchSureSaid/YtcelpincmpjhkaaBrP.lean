/- Package branch: what a call over on answers. Conditions: the table reads; at most a million of rows and associations. Written by gen_brP.py. -/
import Derived.Test.YtcelpincmpjhkaaBrL
namespace Go.Proofs.Ytcelpincmpjhkaa
open Go.RowKit
set_option linter.unusedVariables false

/-- What a call over a table answers. -/
def TabPost (w : World) (D : Res) (e : Ending) (w' : World) : Prop :=
  ∃ rv av, e = .returned (.tuple #[.agg #[rv, av], .int .u8 D.2.2.1, .int .i64 D.2.2.2]) ∧ Own w.heap.size 44 7 brEnc w' rv D.1 ∧ Own w.heap.size 57 5 ascEnc w' av D.2.1 ∧ Below w.heap.size w w'
def TabPost2 (w : World) (D : Res) (e : Ending) (w' : World) : Prop :=
  ∃ rv av, e = .returned (.tuple #[.agg #[rv, av], .int .i64 D.2.2.2]) ∧ Own w.heap.size 44 7 brEnc w' rv D.1 ∧ Own w.heap.size 57 5 ascEnc w' av D.2.1 ∧ Below w.heap.size w w'
theorem on_any (w : World) (rv av : Value) (R : List Brn) (A : List Asc) (ok : Bool) (x : Xid) (F : Nat) (caps : Array Value) (D : Res) (hR : Slc brEnc 7 w rv R) (hA : Slc ascEnc 5 w av A) (hLR : R.length ≤ 1000000) (hLA : A.length ≤ 1000000)
    (hF : ∀ (args : Array Value) (u : World), (callFunc F args).run Try.prog u = .ok (.enter F args) u)
    (hdo : TabOk R A → ok = true → XidOk x → ∀ w1 tb rv1 av1, Below w.heap.size w w1 → DoPre w.heap.size w1 tb rv1 av1 R A → Calls Try.prog F (#[.pointer (some ⟨tb, 0, none⟩)] ++ caps) w1 (DoPost w.heap.size tb D (fun _ => False) (fun _ => True) w1)) :
    Calls Try.prog 47 #[.agg #[rv, av], .bool ok, .agg #[.int .u32 x.1, .string x.2.1, .string x.2.2], .func (.func F) #[] caps] w (TabPost w (overB (mayB R A ok x) D)) := by
  by_cases hm : mayB R A ok x = 0
  · obtain ⟨h1, h2, h3⟩ := mayB_zero hm
    subst h2
    refine (on_ok w rv av R A x F caps D (fun _ => False) (fun _ => True) hR hA hLR hLA h1 h3 (fun k h => h.elim) (fun _ _ _ _ => trivial) hF (hdo h1 rfl h3)).mono ?_
    rintro e w' ⟨rv', av', rfl, hr, ha, hU, -⟩
    have hD : overB (mayB R A true x) D = D := by unfold overB; rw [if_pos hm]
    rw [hD]
    exact ⟨rv', av', rfl, hr, ha, hU.below (Nat.le_refl _) (fun k h => h.elim (fun h => h.elim) id)⟩
  · refine (on_no w rv av R A ok x F caps hR hA hLR hLA hm).mono ?_
    rintro e w' ⟨rfl, hB⟩
    have hD : overB (mayB R A ok x) D = errR (mayB R A ok x) := by unfold overB; rw [if_neg hm]
    rw [hD]
    exact ⟨_, _, rfl, Own.nil, Own.nil, hB⟩
end Go.Proofs.Ytcelpincmpjhkaa
