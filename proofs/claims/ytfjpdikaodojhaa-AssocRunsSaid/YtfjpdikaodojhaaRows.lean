/-
  No cell of these rows narrows 'for every input' (looked for: loops, veiled, ifaces, maps, wideKeys, modest, calm, conditions, laid).
  DERIVED. THE GIVEN ROWS OF THIS SEAT. 5 by the template 'for every input the law returns true; each argument reads behind the call as it read before'; 0 by the template 'total and deterministic' (their statements: YtfjpdikaodojhaaTotals.lean).
  GIVEN WITH THE SEED: the statements are not yours to turn. If you find one false, say at which input.
  Laid BY PROGRAM, IN A SANDBOX (cutbox-rows.mjs): the forced cells as the released guide's own fill.sh prints them over the translation bc6951bb654e12ce… (all of the seat's roots in one cut). By AI agents, Wed Nov 11 2026. No macro, syntax, notation, axiom, sorry.
-/
import Derived.Test.YtfjpdikaodojhaaChecked
import GoSem.Claim
import GoSem.ClaimJoined
import GoSem.ClaimMapViews
import Derived.JoinedTies
import Derived.KernelRfl
namespace Go.Proofs.Ytfjpdikaodojhaa
/- THE CELL 'sum', in the pinned program and in every row, IS THE sha256 OF THE DUMP (.gsa) THAT YtfjpdikaodojhaaProg.lean LOADS. Nothing in Lean hashes anything: it is a label: what it is worth is what the hold of that sum in a sandbox is worth. -/
noncomputable def Try.pinned : Pinned := { name := "ytfjpdikaodojhaa", sum := "bc6951bb654e12ce52f2affa6cc8a43e11187f1de760f45b048517485568a4da", checked := Try.checked }
namespace Rows
def none {H : Type} : Left H := { results := [], args := [] }

/-- 'posthouselaw18.AssocAsks': WHATEVER THE INPUT: true; the input reads as it did. -/
def assocAsksSpec : ChangeSpec := { name := "assocAsks", fn := fun _ => fun
  | [d1, d2, d3] => { results := [.lit (.bool true)], args := [d1, d2, d3] }
  | _ => none }
def assocAsksRow : OpenClaim := { program := "ytfjpdikaodojhaa", sum := "bc6951bb654e12ce52f2affa6cc8a43e11187f1de760f45b048517485568a4da", func := "posthouse/posthouselaw18.AssocAsks", spec := "assocAsks", inPlace := ["internal/bytealg.abigen_runtime_cmpstring", "slices.overlaps[posthouse/api.Assoc]"], unfollowed := true, recurses := true, apart := false }
def AssocAsksSaid : Prop := assocAsksRow.holds Try.pinned (OpenSpec.ofChange assocAsksSpec)

/-- ITS FALSE NEIGHBOUR: 'it returns false'. Refute it at one input. -/
def assocAsksWrong : ChangeSpec := { name := "assocAsks", fn := fun _ => fun
  | [d1, d2, d3] => { results := [.lit (.bool false)], args := [d1, d2, d3] }
  | _ => none }
def AssocAsksWrongFalsely : Prop := assocAsksRow.holds Try.pinned (OpenSpec.ofChange assocAsksWrong)

/-- 'posthouselaw18.AssocGoes': WHATEVER THE INPUT: true; the input reads as it did. -/
def assocGoesSpec : ChangeSpec := { name := "assocGoes", fn := fun _ => fun
  | [d1, d2, d3] => { results := [.lit (.bool true)], args := [d1, d2, d3] }
  | _ => none }
def assocGoesRow : OpenClaim := { program := "ytfjpdikaodojhaa", sum := "bc6951bb654e12ce52f2affa6cc8a43e11187f1de760f45b048517485568a4da", func := "posthouse/posthouselaw18.AssocGoes", spec := "assocGoes", inPlace := ["internal/bytealg.abigen_runtime_cmpstring", "slices.overlaps[posthouse/api.Assoc]"], unfollowed := true, recurses := true, apart := false }
def AssocGoesSaid : Prop := assocGoesRow.holds Try.pinned (OpenSpec.ofChange assocGoesSpec)

/-- ITS FALSE NEIGHBOUR: 'it returns false'. Refute it at one input. -/
def assocGoesWrong : ChangeSpec := { name := "assocGoes", fn := fun _ => fun
  | [d1, d2, d3] => { results := [.lit (.bool false)], args := [d1, d2, d3] }
  | _ => none }
def AssocGoesWrongFalsely : Prop := assocGoesRow.holds Try.pinned (OpenSpec.ofChange assocGoesWrong)

/-- 'posthouselaw18.AssocTurns': WHATEVER THE INPUT: true; the input reads as it did. -/
def assocTurnsSpec : ChangeSpec := { name := "assocTurns", fn := fun _ => fun
  | [d1, d2, d3] => { results := [.lit (.bool true)], args := [d1, d2, d3] }
  | _ => none }
def assocTurnsRow : OpenClaim := { program := "ytfjpdikaodojhaa", sum := "bc6951bb654e12ce52f2affa6cc8a43e11187f1de760f45b048517485568a4da", func := "posthouse/posthouselaw18.AssocTurns", spec := "assocTurns", inPlace := ["internal/bytealg.abigen_runtime_cmpstring", "slices.overlaps[posthouse/api.Assoc]"], unfollowed := true, recurses := true, apart := false }
def AssocTurnsSaid : Prop := assocTurnsRow.holds Try.pinned (OpenSpec.ofChange assocTurnsSpec)

/-- ITS FALSE NEIGHBOUR: 'it returns false'. Refute it at one input. -/
def assocTurnsWrong : ChangeSpec := { name := "assocTurns", fn := fun _ => fun
  | [d1, d2, d3] => { results := [.lit (.bool false)], args := [d1, d2, d3] }
  | _ => none }
def AssocTurnsWrongFalsely : Prop := assocTurnsRow.holds Try.pinned (OpenSpec.ofChange assocTurnsWrong)

/-- 'posthouselaw18.AssocRight': WHATEVER THE INPUT: true; the input reads as it did. -/
def assocRightSpec : ChangeSpec := { name := "assocRight", fn := fun _ => fun
  | [d1, d2, d3] => { results := [.lit (.bool true)], args := [d1, d2, d3] }
  | _ => none }
def assocRightRow : OpenClaim := { program := "ytfjpdikaodojhaa", sum := "bc6951bb654e12ce52f2affa6cc8a43e11187f1de760f45b048517485568a4da", func := "posthouse/posthouselaw18.AssocRight", spec := "assocRight", inPlace := ["internal/bytealg.abigen_runtime_cmpstring", "slices.overlaps[posthouse/api.Assoc]"], unfollowed := true, recurses := true, apart := false }
def AssocRightSaid : Prop := assocRightRow.holds Try.pinned (OpenSpec.ofChange assocRightSpec)

/-- ITS FALSE NEIGHBOUR: 'it returns false'. Refute it at one input. -/
def assocRightWrong : ChangeSpec := { name := "assocRight", fn := fun _ => fun
  | [d1, d2, d3] => { results := [.lit (.bool false)], args := [d1, d2, d3] }
  | _ => none }
def AssocRightWrongFalsely : Prop := assocRightRow.holds Try.pinned (OpenSpec.ofChange assocRightWrong)

/-- 'posthouselaw18.AssocRuns': WHATEVER THE INPUT: true; the input reads as it did. -/
def assocRunsSpec : ChangeSpec := { name := "assocRuns", fn := fun _ => fun
  | [d] => { results := [.lit (.bool true)], args := [d] }
  | _ => none }
def assocRunsRow : OpenClaim := { program := "ytfjpdikaodojhaa", sum := "bc6951bb654e12ce52f2affa6cc8a43e11187f1de760f45b048517485568a4da", func := "posthouse/posthouselaw18.AssocRuns", spec := "assocRuns", inPlace := ["internal/bytealg.abigen_runtime_cmpstring", "slices.overlaps[posthouse/api.Assoc]"], unfollowed := true, recurses := true, apart := false }
def AssocRunsSaid : Prop := assocRunsRow.holds Try.pinned (OpenSpec.ofChange assocRunsSpec)

/-- ITS FALSE NEIGHBOUR: 'it returns false'. Refute it at one input. -/
def assocRunsWrong : ChangeSpec := { name := "assocRuns", fn := fun _ => fun
  | [d] => { results := [.lit (.bool false)], args := [d] }
  | _ => none }
def AssocRunsWrongFalsely : Prop := assocRunsRow.holds Try.pinned (OpenSpec.ofChange assocRunsWrong)

/- THE SECOND FORM. 'bulk': how many values and letters a reading holds, each counted each time it is reached (what is shared counts as often as it is met; a slice's spare places count too). A statement '..UptoSaid' is the law's where the arguments, and the package variables that the reading takes, are together of bulk at most 1048576: NARROWER than '..Said'. Prove '..Said' where nothing that the law and all that it calls make is longer than what came in: it says more and counts as full. Else prove '..UptoSaid'. A law counts once. -/
mutual
def uptoBulk {H : Type} : DataW H → Nat
  | .lit (.string bytes) => bytes.length + 1
  | .lit _ => 1
  | .nil => 1
  | .ptr d => uptoBulk d + 1
  | .slice elems spare => uptoBulkAll elems + uptoBulkAll spare + 1
  | .agg parts => uptoBulkAll parts + 1
  | .iface _ d => uptoBulk d + 1
  | .map entries => uptoBulkEntries entries + 1
  | .held _ => 1
def uptoBulkAll {H : Type} : List (DataW H) → Nat
  | [] => 0
  | d :: r => uptoBulk d + uptoBulkAll r
def uptoBulkEntries {H : Type} : List (Lit × DataW H) → Nat
  | [] => 0
  | x :: r => uptoBulkEntry x + uptoBulkEntries r
def uptoBulkEntry {H : Type} : Lit × DataW H → Nat
  | (.string bytes, d) => bytes.length + uptoBulk d + 1
  | (_, d) => uptoBulk d + 1
 end
def uptoSmall : (H : Type) → List (DataW H) → Bool := fun _ ds => decide (uptoBulkAll ds ≤ 1048576)
def OpenSpec.upto (s : _root_.Go.ChangeSpec) : _root_.Go.OpenSpec := { _root_.Go.OpenSpec.ofChange s with cond := some uptoSmall }

/-- 'posthouselaw18.AssocAsks', WHERE WHAT IT READS IS OF BULK AT MOST 1048576: true; the input reads as it did. -/
def assocAsksUptoRow : OpenClaim := { program := "ytfjpdikaodojhaa", sum := "bc6951bb654e12ce52f2affa6cc8a43e11187f1de760f45b048517485568a4da", func := "posthouse/posthouselaw18.AssocAsks", spec := "assocAsks", inPlace := ["internal/bytealg.abigen_runtime_cmpstring", "slices.overlaps[posthouse/api.Assoc]"], unfollowed := true, recurses := true, apart := false, narrowed := true }
def AssocAsksUptoSaid : Prop := assocAsksUptoRow.holds Try.pinned (OpenSpec.upto assocAsksSpec)

/-- 'posthouselaw18.AssocGoes', WHERE WHAT IT READS IS OF BULK AT MOST 1048576: true; the input reads as it did. -/
def assocGoesUptoRow : OpenClaim := { program := "ytfjpdikaodojhaa", sum := "bc6951bb654e12ce52f2affa6cc8a43e11187f1de760f45b048517485568a4da", func := "posthouse/posthouselaw18.AssocGoes", spec := "assocGoes", inPlace := ["internal/bytealg.abigen_runtime_cmpstring", "slices.overlaps[posthouse/api.Assoc]"], unfollowed := true, recurses := true, apart := false, narrowed := true }
def AssocGoesUptoSaid : Prop := assocGoesUptoRow.holds Try.pinned (OpenSpec.upto assocGoesSpec)

/-- 'posthouselaw18.AssocTurns', WHERE WHAT IT READS IS OF BULK AT MOST 1048576: true; the input reads as it did. -/
def assocTurnsUptoRow : OpenClaim := { program := "ytfjpdikaodojhaa", sum := "bc6951bb654e12ce52f2affa6cc8a43e11187f1de760f45b048517485568a4da", func := "posthouse/posthouselaw18.AssocTurns", spec := "assocTurns", inPlace := ["internal/bytealg.abigen_runtime_cmpstring", "slices.overlaps[posthouse/api.Assoc]"], unfollowed := true, recurses := true, apart := false, narrowed := true }
def AssocTurnsUptoSaid : Prop := assocTurnsUptoRow.holds Try.pinned (OpenSpec.upto assocTurnsSpec)

/-- 'posthouselaw18.AssocRight', WHERE WHAT IT READS IS OF BULK AT MOST 1048576: true; the input reads as it did. -/
def assocRightUptoRow : OpenClaim := { program := "ytfjpdikaodojhaa", sum := "bc6951bb654e12ce52f2affa6cc8a43e11187f1de760f45b048517485568a4da", func := "posthouse/posthouselaw18.AssocRight", spec := "assocRight", inPlace := ["internal/bytealg.abigen_runtime_cmpstring", "slices.overlaps[posthouse/api.Assoc]"], unfollowed := true, recurses := true, apart := false, narrowed := true }
def AssocRightUptoSaid : Prop := assocRightUptoRow.holds Try.pinned (OpenSpec.upto assocRightSpec)

/-- 'posthouselaw18.AssocRuns', WHERE WHAT IT READS IS OF BULK AT MOST 1048576: true; the input reads as it did. -/
def assocRunsUptoRow : OpenClaim := { program := "ytfjpdikaodojhaa", sum := "bc6951bb654e12ce52f2affa6cc8a43e11187f1de760f45b048517485568a4da", func := "posthouse/posthouselaw18.AssocRuns", spec := "assocRuns", inPlace := ["internal/bytealg.abigen_runtime_cmpstring", "slices.overlaps[posthouse/api.Assoc]"], unfollowed := true, recurses := true, apart := false, narrowed := true }
def AssocRunsUptoSaid : Prop := assocRunsUptoRow.holds Try.pinned (OpenSpec.upto assocRunsSpec)

end Rows
end Go.Proofs.Ytfjpdikaodojhaa
