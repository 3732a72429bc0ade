/- A law on a region in the order of the text ('wpList ..') as one step of a region that draws its order. Conditions: the operation has no guard. -/
import Derived.Test.YtgpdbifgbabnnaaOwn
import Derived.Deep.RegionHeld3
namespace Go.Proofs.Ytgpdbifgbabnnaa
section
variable {P : Program} {ops : Array Oper} {o : Oper} {a : Act} {w : World}
theorem upon_of {K : Act → World → Prop} {Q : Exit → Act → World → Prop} {r : Result Next} (h : o.upon P a K (fun e a w => e = .normal ∧ K a w) r) : o.upon P a K Q r := by
  cases r with
  | ok n w' =>
    cases n with
    | enter f args =>
      refine Calls.mono (R := _) h ?_
      intro e w'' hr
      cases e with
      | returned v => exact hr
      | panicked chain => exact absurd hr.1 (by simp)
      | outgrown => obtain ⟨_, _, h1, _⟩ := hr; exact absurd h1 (by simp)
    | _ => first | exact h | exact h.elim
  | halt x w' =>
    cases x with
    | panic v => exact absurd h.1 (by simp)
    | _ => first | exact h | exact h.elim
theorem step_of_list {K : Act → World → Prop} {Q : Exit → Act → World → Prop} {Z : Prop} (hg : o.guard = none) (h : wpList P ops (fun e a w => e = .normal ∧ K a w) [o] a w) :
    if Region.wanted o (yielded ops a.tmps) = true then Oper.wp P o a w K Q else Z := by
  have hw : Region.wanted o (yielded ops a.tmps) = true := by simp [Region.wanted, hg]
  rw [if_pos hw]
  unfold wpList at h
  rw [if_pos hw] at h
  have e : wpList P ops (fun e a w => e = .normal ∧ K a w) [] = K := by funext a w; exact propext ⟨And.right, fun h => ⟨rfl, h⟩⟩
  rw [e] at h
  rcases h with h | ⟨_, a', w', h, _⟩
  · exact upon_of h
  · exact absurd h (by simp)
end
end Go.Proofs.Ytgpdbifgbabnnaa
