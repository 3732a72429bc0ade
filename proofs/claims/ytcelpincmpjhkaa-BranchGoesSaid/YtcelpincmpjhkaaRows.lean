/-
  No cell of these rows narrows 'for every input' (looked for: loops, veiled, ifaces, maps, wideKeys, modest, calm, conditions, laid).
  DERIVED. THE GIVEN ROWS OF THIS SEAT. 7 by the template 'for every input the law returns true; each argument reads behind the call as it read before'; 0 by the template 'total and deterministic' (their statements: YtcelpincmpjhkaaTotals.lean).
  GIVEN WITH THE SEED: the statements are not yours to turn. If you find one false, say at which input.
  Laid BY PROGRAM, IN A SANDBOX (cutbox-rows.mjs): the forced cells as the released guide's own fill.sh prints them over the translation 34afda71389db6cb… (all of the seat's roots in one cut). By AI agents, Wed Nov 11 2026. No macro, syntax, notation, axiom, sorry.
-/
import Derived.Test.YtcelpincmpjhkaaChecked
import GoSem.Claim
import GoSem.ClaimJoined
import GoSem.ClaimMapViews
import Derived.JoinedTies
import Derived.KernelRfl
namespace Go.Proofs.Ytcelpincmpjhkaa
/- THE CELL 'sum', in the pinned program and in every row, IS THE sha256 OF THE DUMP (.gsa) THAT YtcelpincmpjhkaaProg.lean LOADS. Nothing in Lean hashes anything: it is a label: what it is worth is what the hold of that sum in a sandbox is worth. -/
noncomputable def Try.pinned : Pinned := { name := "ytcelpincmpjhkaa", sum := "34afda71389db6cb3233a317fa83e5d585c24b0cf944fd3ecc30b5f3c54e4fbb", checked := Try.checked }
namespace Rows
def none {H : Type} : Left H := { results := [], args := [] }

/-- 'posthouselaw19.BranchStarts': WHATEVER THE INPUT: true; the input reads as it did. -/
def branchStartsSpec : ChangeSpec := { name := "branchStarts", fn := fun _ => fun
  | [d1, d2, d3] => { results := [.lit (.bool true)], args := [d1, d2, d3] }
  | _ => none }
def branchStartsRow : OpenClaim := { program := "ytcelpincmpjhkaa", sum := "34afda71389db6cb3233a317fa83e5d585c24b0cf944fd3ecc30b5f3c54e4fbb", func := "posthouse/posthouselaw19.BranchStarts", spec := "branchStarts", inPlace := ["internal/bytealg.abigen_runtime_cmpstring", "slices.overlaps[posthouse/api.Branch]", "slices.overlaps[posthouse/api.Assoc]"], unfollowed := true, recurses := true, apart := false }
def BranchStartsSaid : Prop := branchStartsRow.holds Try.pinned (OpenSpec.ofChange branchStartsSpec)

/-- ITS FALSE NEIGHBOUR: 'it returns false'. Refute it at one input. -/
def branchStartsWrong : ChangeSpec := { name := "branchStarts", fn := fun _ => fun
  | [d1, d2, d3] => { results := [.lit (.bool false)], args := [d1, d2, d3] }
  | _ => none }
def BranchStartsWrongFalsely : Prop := branchStartsRow.holds Try.pinned (OpenSpec.ofChange branchStartsWrong)

/-- 'posthouselaw19.BranchAsks': WHATEVER THE INPUT: true; the input reads as it did. -/
def branchAsksSpec : ChangeSpec := { name := "branchAsks", fn := fun _ => fun
  | [d1, d2] => { results := [.lit (.bool true)], args := [d1, d2] }
  | _ => none }
def branchAsksRow : OpenClaim := { program := "ytcelpincmpjhkaa", sum := "34afda71389db6cb3233a317fa83e5d585c24b0cf944fd3ecc30b5f3c54e4fbb", func := "posthouse/posthouselaw19.BranchAsks", spec := "branchAsks", inPlace := ["internal/bytealg.abigen_runtime_cmpstring", "slices.overlaps[posthouse/api.Branch]", "slices.overlaps[posthouse/api.Assoc]"], unfollowed := true, recurses := true, apart := false }
def BranchAsksSaid : Prop := branchAsksRow.holds Try.pinned (OpenSpec.ofChange branchAsksSpec)

/-- ITS FALSE NEIGHBOUR: 'it returns false'. Refute it at one input. -/
def branchAsksWrong : ChangeSpec := { name := "branchAsks", fn := fun _ => fun
  | [d1, d2] => { results := [.lit (.bool false)], args := [d1, d2] }
  | _ => none }
def BranchAsksWrongFalsely : Prop := branchAsksRow.holds Try.pinned (OpenSpec.ofChange branchAsksWrong)

/-- 'posthouselaw19.BranchSure': WHATEVER THE INPUT: true; the input reads as it did. -/
def branchSureSpec : ChangeSpec := { name := "branchSure", fn := fun _ => fun
  | [d1, d2, d3] => { results := [.lit (.bool true)], args := [d1, d2, d3] }
  | _ => none }
def branchSureRow : OpenClaim := { program := "ytcelpincmpjhkaa", sum := "34afda71389db6cb3233a317fa83e5d585c24b0cf944fd3ecc30b5f3c54e4fbb", func := "posthouse/posthouselaw19.BranchSure", spec := "branchSure", inPlace := ["internal/bytealg.abigen_runtime_cmpstring", "slices.overlaps[posthouse/api.Branch]", "slices.overlaps[posthouse/api.Assoc]"], unfollowed := true, recurses := true, apart := false }
def BranchSureSaid : Prop := branchSureRow.holds Try.pinned (OpenSpec.ofChange branchSureSpec)

/-- ITS FALSE NEIGHBOUR: 'it returns false'. Refute it at one input. -/
def branchSureWrong : ChangeSpec := { name := "branchSure", fn := fun _ => fun
  | [d1, d2, d3] => { results := [.lit (.bool false)], args := [d1, d2, d3] }
  | _ => none }
def BranchSureWrongFalsely : Prop := branchSureRow.holds Try.pinned (OpenSpec.ofChange branchSureWrong)

/-- 'posthouselaw19.BranchEnds': WHATEVER THE INPUT: true; the input reads as it did. -/
def branchEndsSpec : ChangeSpec := { name := "branchEnds", fn := fun _ => fun
  | [d1, d2, d3] => { results := [.lit (.bool true)], args := [d1, d2, d3] }
  | _ => none }
def branchEndsRow : OpenClaim := { program := "ytcelpincmpjhkaa", sum := "34afda71389db6cb3233a317fa83e5d585c24b0cf944fd3ecc30b5f3c54e4fbb", func := "posthouse/posthouselaw19.BranchEnds", spec := "branchEnds", inPlace := ["internal/bytealg.abigen_runtime_cmpstring", "slices.overlaps[posthouse/api.Branch]", "slices.overlaps[posthouse/api.Assoc]"], unfollowed := true, recurses := true, apart := false }
def BranchEndsSaid : Prop := branchEndsRow.holds Try.pinned (OpenSpec.ofChange branchEndsSpec)

/-- ITS FALSE NEIGHBOUR: 'it returns false'. Refute it at one input. -/
def branchEndsWrong : ChangeSpec := { name := "branchEnds", fn := fun _ => fun
  | [d1, d2, d3] => { results := [.lit (.bool false)], args := [d1, d2, d3] }
  | _ => none }
def BranchEndsWrongFalsely : Prop := branchEndsRow.holds Try.pinned (OpenSpec.ofChange branchEndsWrong)

/-- 'posthouselaw19.BranchTurns': WHATEVER THE INPUT: true; the input reads as it did. -/
def branchTurnsSpec : ChangeSpec := { name := "branchTurns", fn := fun _ => fun
  | [d1, d2, d3] => { results := [.lit (.bool true)], args := [d1, d2, d3] }
  | _ => none }
def branchTurnsRow : OpenClaim := { program := "ytcelpincmpjhkaa", sum := "34afda71389db6cb3233a317fa83e5d585c24b0cf944fd3ecc30b5f3c54e4fbb", func := "posthouse/posthouselaw19.BranchTurns", spec := "branchTurns", inPlace := ["internal/bytealg.abigen_runtime_cmpstring", "slices.overlaps[posthouse/api.Branch]", "slices.overlaps[posthouse/api.Assoc]"], unfollowed := true, recurses := true, apart := false }
def BranchTurnsSaid : Prop := branchTurnsRow.holds Try.pinned (OpenSpec.ofChange branchTurnsSpec)

/-- ITS FALSE NEIGHBOUR: 'it returns false'. Refute it at one input. -/
def branchTurnsWrong : ChangeSpec := { name := "branchTurns", fn := fun _ => fun
  | [d1, d2, d3] => { results := [.lit (.bool false)], args := [d1, d2, d3] }
  | _ => none }
def BranchTurnsWrongFalsely : Prop := branchTurnsRow.holds Try.pinned (OpenSpec.ofChange branchTurnsWrong)

/-- 'posthouselaw19.BranchGoes': WHATEVER THE INPUT: true; the input reads as it did. -/
def branchGoesSpec : ChangeSpec := { name := "branchGoes", fn := fun _ => fun
  | [d1, d2] => { results := [.lit (.bool true)], args := [d1, d2] }
  | _ => none }
def branchGoesRow : OpenClaim := { program := "ytcelpincmpjhkaa", sum := "34afda71389db6cb3233a317fa83e5d585c24b0cf944fd3ecc30b5f3c54e4fbb", func := "posthouse/posthouselaw19.BranchGoes", spec := "branchGoes", inPlace := ["internal/bytealg.abigen_runtime_cmpstring", "slices.overlaps[posthouse/api.Branch]", "slices.overlaps[posthouse/api.Assoc]"], unfollowed := true, recurses := true, apart := false }
def BranchGoesSaid : Prop := branchGoesRow.holds Try.pinned (OpenSpec.ofChange branchGoesSpec)

/-- ITS FALSE NEIGHBOUR: 'it returns false'. Refute it at one input. -/
def branchGoesWrong : ChangeSpec := { name := "branchGoes", fn := fun _ => fun
  | [d1, d2] => { results := [.lit (.bool false)], args := [d1, d2] }
  | _ => none }
def BranchGoesWrongFalsely : Prop := branchGoesRow.holds Try.pinned (OpenSpec.ofChange branchGoesWrong)

/-- 'posthouselaw19.BranchLasts': WHATEVER THE INPUT: true; the input reads as it did. -/
def branchLastsSpec : ChangeSpec := { name := "branchLasts", fn := fun _ => fun
  | [d] => { results := [.lit (.bool true)], args := [d] }
  | _ => none }
def branchLastsRow : OpenClaim := { program := "ytcelpincmpjhkaa", sum := "34afda71389db6cb3233a317fa83e5d585c24b0cf944fd3ecc30b5f3c54e4fbb", func := "posthouse/posthouselaw19.BranchLasts", spec := "branchLasts", inPlace := ["internal/bytealg.abigen_runtime_cmpstring", "slices.overlaps[posthouse/api.Branch]", "slices.overlaps[posthouse/api.Assoc]"], unfollowed := true, recurses := true, apart := false }
def BranchLastsSaid : Prop := branchLastsRow.holds Try.pinned (OpenSpec.ofChange branchLastsSpec)

/-- ITS FALSE NEIGHBOUR: 'it returns false'. Refute it at one input. -/
def branchLastsWrong : ChangeSpec := { name := "branchLasts", fn := fun _ => fun
  | [d] => { results := [.lit (.bool false)], args := [d] }
  | _ => none }
def BranchLastsWrongFalsely : Prop := branchLastsRow.holds Try.pinned (OpenSpec.ofChange branchLastsWrong)

/- THE SECOND FORM. 'bulk': how many values and letters a reading holds, each counted each time it is reached (what is shared counts as often as it is met; a slice's spare places count too). A statement '..UptoSaid' is the law's where the arguments, and the package variables that the reading takes, are together of bulk at most 1048576: NARROWER than '..Said'. Prove '..Said' where nothing that the law and all that it calls make is longer than what came in: it says more and counts as full. Else prove '..UptoSaid'. A law counts once. -/
mutual
def uptoBulk {H : Type} : DataW H → Nat
  | .lit (.string bytes) => bytes.length + 1
  | .lit _ => 1
  | .nil => 1
  | .ptr d => uptoBulk d + 1
  | .slice elems spare => uptoBulkAll elems + uptoBulkAll spare + 1
  | .agg parts => uptoBulkAll parts + 1
  | .iface _ d => uptoBulk d + 1
  | .map entries => uptoBulkEntries entries + 1
  | .held _ => 1
def uptoBulkAll {H : Type} : List (DataW H) → Nat
  | [] => 0
  | d :: r => uptoBulk d + uptoBulkAll r
def uptoBulkEntries {H : Type} : List (Lit × DataW H) → Nat
  | [] => 0
  | x :: r => uptoBulkEntry x + uptoBulkEntries r
def uptoBulkEntry {H : Type} : Lit × DataW H → Nat
  | (.string bytes, d) => bytes.length + uptoBulk d + 1
  | (_, d) => uptoBulk d + 1
 end
def uptoSmall : (H : Type) → List (DataW H) → Bool := fun _ ds => decide (uptoBulkAll ds ≤ 1048576)
def OpenSpec.upto (s : _root_.Go.ChangeSpec) : _root_.Go.OpenSpec := { _root_.Go.OpenSpec.ofChange s with cond := some uptoSmall }

/-- 'posthouselaw19.BranchStarts', WHERE WHAT IT READS IS OF BULK AT MOST 1048576: true; the input reads as it did. -/
def branchStartsUptoRow : OpenClaim := { program := "ytcelpincmpjhkaa", sum := "34afda71389db6cb3233a317fa83e5d585c24b0cf944fd3ecc30b5f3c54e4fbb", func := "posthouse/posthouselaw19.BranchStarts", spec := "branchStarts", inPlace := ["internal/bytealg.abigen_runtime_cmpstring", "slices.overlaps[posthouse/api.Branch]", "slices.overlaps[posthouse/api.Assoc]"], unfollowed := true, recurses := true, apart := false, narrowed := true }
def BranchStartsUptoSaid : Prop := branchStartsUptoRow.holds Try.pinned (OpenSpec.upto branchStartsSpec)

/-- 'posthouselaw19.BranchAsks', WHERE WHAT IT READS IS OF BULK AT MOST 1048576: true; the input reads as it did. -/
def branchAsksUptoRow : OpenClaim := { program := "ytcelpincmpjhkaa", sum := "34afda71389db6cb3233a317fa83e5d585c24b0cf944fd3ecc30b5f3c54e4fbb", func := "posthouse/posthouselaw19.BranchAsks", spec := "branchAsks", inPlace := ["internal/bytealg.abigen_runtime_cmpstring", "slices.overlaps[posthouse/api.Branch]", "slices.overlaps[posthouse/api.Assoc]"], unfollowed := true, recurses := true, apart := false, narrowed := true }
def BranchAsksUptoSaid : Prop := branchAsksUptoRow.holds Try.pinned (OpenSpec.upto branchAsksSpec)

/-- 'posthouselaw19.BranchSure', WHERE WHAT IT READS IS OF BULK AT MOST 1048576: true; the input reads as it did. -/
def branchSureUptoRow : OpenClaim := { program := "ytcelpincmpjhkaa", sum := "34afda71389db6cb3233a317fa83e5d585c24b0cf944fd3ecc30b5f3c54e4fbb", func := "posthouse/posthouselaw19.BranchSure", spec := "branchSure", inPlace := ["internal/bytealg.abigen_runtime_cmpstring", "slices.overlaps[posthouse/api.Branch]", "slices.overlaps[posthouse/api.Assoc]"], unfollowed := true, recurses := true, apart := false, narrowed := true }
def BranchSureUptoSaid : Prop := branchSureUptoRow.holds Try.pinned (OpenSpec.upto branchSureSpec)

/-- 'posthouselaw19.BranchEnds', WHERE WHAT IT READS IS OF BULK AT MOST 1048576: true; the input reads as it did. -/
def branchEndsUptoRow : OpenClaim := { program := "ytcelpincmpjhkaa", sum := "34afda71389db6cb3233a317fa83e5d585c24b0cf944fd3ecc30b5f3c54e4fbb", func := "posthouse/posthouselaw19.BranchEnds", spec := "branchEnds", inPlace := ["internal/bytealg.abigen_runtime_cmpstring", "slices.overlaps[posthouse/api.Branch]", "slices.overlaps[posthouse/api.Assoc]"], unfollowed := true, recurses := true, apart := false, narrowed := true }
def BranchEndsUptoSaid : Prop := branchEndsUptoRow.holds Try.pinned (OpenSpec.upto branchEndsSpec)

/-- 'posthouselaw19.BranchTurns', WHERE WHAT IT READS IS OF BULK AT MOST 1048576: true; the input reads as it did. -/
def branchTurnsUptoRow : OpenClaim := { program := "ytcelpincmpjhkaa", sum := "34afda71389db6cb3233a317fa83e5d585c24b0cf944fd3ecc30b5f3c54e4fbb", func := "posthouse/posthouselaw19.BranchTurns", spec := "branchTurns", inPlace := ["internal/bytealg.abigen_runtime_cmpstring", "slices.overlaps[posthouse/api.Branch]", "slices.overlaps[posthouse/api.Assoc]"], unfollowed := true, recurses := true, apart := false, narrowed := true }
def BranchTurnsUptoSaid : Prop := branchTurnsUptoRow.holds Try.pinned (OpenSpec.upto branchTurnsSpec)

/-- 'posthouselaw19.BranchGoes', WHERE WHAT IT READS IS OF BULK AT MOST 1048576: true; the input reads as it did. -/
def branchGoesUptoRow : OpenClaim := { program := "ytcelpincmpjhkaa", sum := "34afda71389db6cb3233a317fa83e5d585c24b0cf944fd3ecc30b5f3c54e4fbb", func := "posthouse/posthouselaw19.BranchGoes", spec := "branchGoes", inPlace := ["internal/bytealg.abigen_runtime_cmpstring", "slices.overlaps[posthouse/api.Branch]", "slices.overlaps[posthouse/api.Assoc]"], unfollowed := true, recurses := true, apart := false, narrowed := true }
def BranchGoesUptoSaid : Prop := branchGoesUptoRow.holds Try.pinned (OpenSpec.upto branchGoesSpec)

/-- 'posthouselaw19.BranchLasts', WHERE WHAT IT READS IS OF BULK AT MOST 1048576: true; the input reads as it did. -/
def branchLastsUptoRow : OpenClaim := { program := "ytcelpincmpjhkaa", sum := "34afda71389db6cb3233a317fa83e5d585c24b0cf944fd3ecc30b5f3c54e4fbb", func := "posthouse/posthouselaw19.BranchLasts", spec := "branchLasts", inPlace := ["internal/bytealg.abigen_runtime_cmpstring", "slices.overlaps[posthouse/api.Branch]", "slices.overlaps[posthouse/api.Assoc]"], unfollowed := true, recurses := true, apart := false, narrowed := true }
def BranchLastsUptoSaid : Prop := branchLastsUptoRow.holds Try.pinned (OpenSpec.upto branchLastsSpec)

end Rows
end Go.Proofs.Ytcelpincmpjhkaa
