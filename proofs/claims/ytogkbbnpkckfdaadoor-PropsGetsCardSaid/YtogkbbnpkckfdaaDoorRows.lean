/-
  NARROWER THAN 'FOR EVERY INPUT', by the rows' own cells (each row's printed sentence says how): PropsPuts: loops, laid · PropsGets: laid · PropsSame: loops, laid · PropsBack: loops, laid · PropsOne: loops, laid.
  DERIVED. THE GIVEN ROWS OF THIS SEAT. 5 by the template 'for every input the law returns true; each argument reads behind the call as it read before'; 0 by the template 'total and deterministic' (their statements: YtogkbbnpkckfdaaDoorTotals.lean).
  GIVEN WITH THE SEED: the statements are not yours to turn. If you find one false, say at which input.
  Laid BY PROGRAM, IN A SANDBOX (cutbox-rows.mjs): the forced cells as the released guide's own fill.sh prints them over the translation 4b68eaa281c22b4e… (all of the seat's roots in one cut). By AI agents, Wed Nov 11 2026. No macro, syntax, notation, axiom, sorry.
-/
import Derived.Test.YtogkbbnpkckfdaaDoorChecked
import GoSem.PinnedTables
import GoSem.Claim
import GoSem.ClaimJoined
import GoSem.ClaimMapViews
import Derived.JoinedTies
import Derived.KernelRfl
namespace Go.Proofs.YtogkbbnpkckfdaaDoor
/- THE CELL 'sum', in the pinned program and in every row, IS THE sha256 OF THE DUMP (.gsa) THAT YtogkbbnpkckfdaaDoorProg.lean LOADS. Nothing in Lean hashes anything: it is a label: what it is worth is what the hold of that sum in a sandbox is worth. -/
noncomputable def Tryd.pinned : Pinned := { name := "ytogkbbnpkckfdaadoor", sum := "4b68eaa281c22b4e936fece03dbcb27f2c31c296a3e5983060c6130119279277", checked := Tryd.checked }
namespace Rows
def none {H : Type} : Left H := { results := [], args := [] }

/- WHAT THE LISTED PACKAGE-LEVEL VARIABLES READ AS WHEN THE CALL BEGINS. Each datum BY PROGRAM (the guide's laid-datum.mjs) off the statement by which the dump's own 'gosem.cut.vars' lays the variable. In a bare row this is a premise. The card (YtogkbbnpkckfdaaDoorCards.lean) ties it to the program's text. -/
def laid_unicode_utf8_acceptRanges {H : Type} : DataW H := .agg [.agg [.lit (.int .u8 128), .lit (.int .u8 191)], .agg [.lit (.int .u8 160), .lit (.int .u8 191)], .agg [.lit (.int .u8 128), .lit (.int .u8 159)], .agg [.lit (.int .u8 144), .lit (.int .u8 191)], .agg [.lit (.int .u8 128), .lit (.int .u8 143)], .agg [.lit (.int .u8 0), .lit (.int .u8 0)], .agg [.lit (.int .u8 0), .lit (.int .u8 0)], .agg [.lit (.int .u8 0), .lit (.int .u8 0)], .agg [.lit (.int .u8 0), .lit (.int .u8 0)], .agg [.lit (.int .u8 0), .lit (.int .u8 0)], .agg [.lit (.int .u8 0), .lit (.int .u8 0)], .agg [.lit (.int .u8 0), .lit (.int .u8 0)], .agg [.lit (.int .u8 0), .lit (.int .u8 0)], .agg [.lit (.int .u8 0), .lit (.int .u8 0)], .agg [.lit (.int .u8 0), .lit (.int .u8 0)], .agg [.lit (.int .u8 0), .lit (.int .u8 0)]]
/-- One of Go's own tables, pinned by name: the form's constant. -/
def laid_unicode_utf8_first : DataW Unit := Go.Pinned.utf8First

/-- 'posthouselaw09.PropsPuts': WHATEVER THE INPUT: true; the input reads as it did. -/
def propsPutsSpec : ChangeSpec := { name := "propsPuts", fn := fun _ => fun
  | [d] => { results := [.lit (.bool true)], args := [d] }
  | _ => none }
def propsPutsRow : OpenClaim := { program := "ytogkbbnpkckfdaadoor", sum := "4b68eaa281c22b4e936fece03dbcb27f2c31c296a3e5983060c6130119279277", func := "posthouse/posthouselaw09.PropsPuts", spec := "propsPuts", unfollowed := true, recurses := true, named := ["unicode/utf8.first", "unicode/utf8.acceptRanges"], loops := true, apart := false, laid := [("unicode/utf8.acceptRanges", laid_unicode_utf8_acceptRanges), ("unicode/utf8.first", laid_unicode_utf8_first)] }
def PropsPutsSaid : Prop := propsPutsRow.holds Tryd.pinned (OpenSpec.ofChange propsPutsSpec)

/-- ITS FALSE NEIGHBOUR: 'it returns false'. Refute it at one input. -/
def propsPutsWrong : ChangeSpec := { name := "propsPuts", fn := fun _ => fun
  | [d] => { results := [.lit (.bool false)], args := [d] }
  | _ => none }
def PropsPutsWrongFalsely : Prop := propsPutsRow.holds Tryd.pinned (OpenSpec.ofChange propsPutsWrong)

/-- 'posthouselaw09.PropsGets': WHATEVER THE INPUT: true; the input reads as it did. -/
def propsGetsSpec : ChangeSpec := { name := "propsGets", fn := fun _ => fun
  | [d] => { results := [.lit (.bool true)], args := [d] }
  | _ => none }
def propsGetsRow : OpenClaim := { program := "ytogkbbnpkckfdaadoor", sum := "4b68eaa281c22b4e936fece03dbcb27f2c31c296a3e5983060c6130119279277", func := "posthouse/posthouselaw09.PropsGets", spec := "propsGets", unfollowed := true, recurses := true, named := ["unicode/utf8.first", "unicode/utf8.acceptRanges"], apart := false, laid := [("unicode/utf8.acceptRanges", laid_unicode_utf8_acceptRanges), ("unicode/utf8.first", laid_unicode_utf8_first)] }
def PropsGetsSaid : Prop := propsGetsRow.holds Tryd.pinned (OpenSpec.ofChange propsGetsSpec)

/-- ITS FALSE NEIGHBOUR: 'it returns false'. Refute it at one input. -/
def propsGetsWrong : ChangeSpec := { name := "propsGets", fn := fun _ => fun
  | [d] => { results := [.lit (.bool false)], args := [d] }
  | _ => none }
def PropsGetsWrongFalsely : Prop := propsGetsRow.holds Tryd.pinned (OpenSpec.ofChange propsGetsWrong)

/-- 'posthouselaw09.PropsSame': WHATEVER THE INPUT: true; the input reads as it did. -/
def propsSameSpec : ChangeSpec := { name := "propsSame", fn := fun _ => fun
  | [d1, d2] => { results := [.lit (.bool true)], args := [d1, d2] }
  | _ => none }
def propsSameRow : OpenClaim := { program := "ytogkbbnpkckfdaadoor", sum := "4b68eaa281c22b4e936fece03dbcb27f2c31c296a3e5983060c6130119279277", func := "posthouse/posthouselaw09.PropsSame", spec := "propsSame", unfollowed := true, recurses := true, named := ["unicode/utf8.first", "unicode/utf8.acceptRanges"], loops := true, apart := false, laid := [("unicode/utf8.acceptRanges", laid_unicode_utf8_acceptRanges), ("unicode/utf8.first", laid_unicode_utf8_first)] }
def PropsSameSaid : Prop := propsSameRow.holds Tryd.pinned (OpenSpec.ofChange propsSameSpec)

/-- ITS FALSE NEIGHBOUR: 'it returns false'. Refute it at one input. -/
def propsSameWrong : ChangeSpec := { name := "propsSame", fn := fun _ => fun
  | [d1, d2] => { results := [.lit (.bool false)], args := [d1, d2] }
  | _ => none }
def PropsSameWrongFalsely : Prop := propsSameRow.holds Tryd.pinned (OpenSpec.ofChange propsSameWrong)

/-- 'posthouselaw09.PropsBack': WHATEVER THE INPUT: true; the input reads as it did. -/
def propsBackSpec : ChangeSpec := { name := "propsBack", fn := fun _ => fun
  | [d1, d2] => { results := [.lit (.bool true)], args := [d1, d2] }
  | _ => none }
def propsBackRow : OpenClaim := { program := "ytogkbbnpkckfdaadoor", sum := "4b68eaa281c22b4e936fece03dbcb27f2c31c296a3e5983060c6130119279277", func := "posthouse/posthouselaw09.PropsBack", spec := "propsBack", unfollowed := true, recurses := true, named := ["unicode/utf8.first", "unicode/utf8.acceptRanges"], loops := true, apart := false, laid := [("unicode/utf8.acceptRanges", laid_unicode_utf8_acceptRanges), ("unicode/utf8.first", laid_unicode_utf8_first)] }
def PropsBackSaid : Prop := propsBackRow.holds Tryd.pinned (OpenSpec.ofChange propsBackSpec)

/-- ITS FALSE NEIGHBOUR: 'it returns false'. Refute it at one input. -/
def propsBackWrong : ChangeSpec := { name := "propsBack", fn := fun _ => fun
  | [d1, d2] => { results := [.lit (.bool false)], args := [d1, d2] }
  | _ => none }
def PropsBackWrongFalsely : Prop := propsBackRow.holds Tryd.pinned (OpenSpec.ofChange propsBackWrong)

/-- 'posthouselaw09.PropsOne': WHATEVER THE INPUT: true; the input reads as it did. -/
def propsOneSpec : ChangeSpec := { name := "propsOne", fn := fun _ => fun
  | [d1, d2] => { results := [.lit (.bool true)], args := [d1, d2] }
  | _ => none }
def propsOneRow : OpenClaim := { program := "ytogkbbnpkckfdaadoor", sum := "4b68eaa281c22b4e936fece03dbcb27f2c31c296a3e5983060c6130119279277", func := "posthouse/posthouselaw09.PropsOne", spec := "propsOne", unfollowed := true, recurses := true, named := ["unicode/utf8.first", "unicode/utf8.acceptRanges"], loops := true, apart := false, laid := [("unicode/utf8.acceptRanges", laid_unicode_utf8_acceptRanges), ("unicode/utf8.first", laid_unicode_utf8_first)] }
def PropsOneSaid : Prop := propsOneRow.holds Tryd.pinned (OpenSpec.ofChange propsOneSpec)

/-- ITS FALSE NEIGHBOUR: 'it returns false'. Refute it at one input. -/
def propsOneWrong : ChangeSpec := { name := "propsOne", fn := fun _ => fun
  | [d1, d2] => { results := [.lit (.bool false)], args := [d1, d2] }
  | _ => none }
def PropsOneWrongFalsely : Prop := propsOneRow.holds Tryd.pinned (OpenSpec.ofChange propsOneWrong)

/- THE SECOND FORM. 'bulk': how many values and letters a reading holds, each counted each time it is reached (what is shared counts as often as it is met; a slice's spare places count too). A statement '..UptoSaid' is the law's where the arguments, and the package variables that the reading takes, are together of bulk at most 1048576: NARROWER than '..Said'. Prove '..Said' where nothing that the law and all that it calls make is longer than what came in: it says more and counts as full. Else prove '..UptoSaid'. A law counts once. -/
mutual
def uptoBulk {H : Type} : DataW H → Nat
  | .lit (.string bytes) => bytes.length + 1
  | .lit _ => 1
  | .nil => 1
  | .ptr d => uptoBulk d + 1
  | .slice elems spare => uptoBulkAll elems + uptoBulkAll spare + 1
  | .agg parts => uptoBulkAll parts + 1
  | .iface _ d => uptoBulk d + 1
  | .map entries => uptoBulkEntries entries + 1
  | .held _ => 1
def uptoBulkAll {H : Type} : List (DataW H) → Nat
  | [] => 0
  | d :: r => uptoBulk d + uptoBulkAll r
def uptoBulkEntries {H : Type} : List (Lit × DataW H) → Nat
  | [] => 0
  | x :: r => uptoBulkEntry x + uptoBulkEntries r
def uptoBulkEntry {H : Type} : Lit × DataW H → Nat
  | (.string bytes, d) => bytes.length + uptoBulk d + 1
  | (_, d) => uptoBulk d + 1
 end
def uptoSmall : (H : Type) → List (DataW H) → Bool := fun _ ds => decide (uptoBulkAll ds ≤ 1048576)
def OpenSpec.upto (s : _root_.Go.ChangeSpec) : _root_.Go.OpenSpec := { _root_.Go.OpenSpec.ofChange s with cond := some uptoSmall }

/-- 'posthouselaw09.PropsPuts', WHERE WHAT IT READS IS OF BULK AT MOST 1048576: true; the input reads as it did. -/
def propsPutsUptoRow : OpenClaim := { program := "ytogkbbnpkckfdaadoor", sum := "4b68eaa281c22b4e936fece03dbcb27f2c31c296a3e5983060c6130119279277", func := "posthouse/posthouselaw09.PropsPuts", spec := "propsPuts", unfollowed := true, recurses := true, named := ["unicode/utf8.first", "unicode/utf8.acceptRanges"], loops := true, apart := false, laid := [("unicode/utf8.acceptRanges", laid_unicode_utf8_acceptRanges), ("unicode/utf8.first", laid_unicode_utf8_first)], narrowed := true }
def PropsPutsUptoSaid : Prop := propsPutsUptoRow.holds Tryd.pinned (OpenSpec.upto propsPutsSpec)

/-- 'posthouselaw09.PropsGets', WHERE WHAT IT READS IS OF BULK AT MOST 1048576: true; the input reads as it did. -/
def propsGetsUptoRow : OpenClaim := { program := "ytogkbbnpkckfdaadoor", sum := "4b68eaa281c22b4e936fece03dbcb27f2c31c296a3e5983060c6130119279277", func := "posthouse/posthouselaw09.PropsGets", spec := "propsGets", unfollowed := true, recurses := true, named := ["unicode/utf8.first", "unicode/utf8.acceptRanges"], apart := false, laid := [("unicode/utf8.acceptRanges", laid_unicode_utf8_acceptRanges), ("unicode/utf8.first", laid_unicode_utf8_first)], narrowed := true }
def PropsGetsUptoSaid : Prop := propsGetsUptoRow.holds Tryd.pinned (OpenSpec.upto propsGetsSpec)

/-- 'posthouselaw09.PropsSame', WHERE WHAT IT READS IS OF BULK AT MOST 1048576: true; the input reads as it did. -/
def propsSameUptoRow : OpenClaim := { program := "ytogkbbnpkckfdaadoor", sum := "4b68eaa281c22b4e936fece03dbcb27f2c31c296a3e5983060c6130119279277", func := "posthouse/posthouselaw09.PropsSame", spec := "propsSame", unfollowed := true, recurses := true, named := ["unicode/utf8.first", "unicode/utf8.acceptRanges"], loops := true, apart := false, laid := [("unicode/utf8.acceptRanges", laid_unicode_utf8_acceptRanges), ("unicode/utf8.first", laid_unicode_utf8_first)], narrowed := true }
def PropsSameUptoSaid : Prop := propsSameUptoRow.holds Tryd.pinned (OpenSpec.upto propsSameSpec)

/-- 'posthouselaw09.PropsBack', WHERE WHAT IT READS IS OF BULK AT MOST 1048576: true; the input reads as it did. -/
def propsBackUptoRow : OpenClaim := { program := "ytogkbbnpkckfdaadoor", sum := "4b68eaa281c22b4e936fece03dbcb27f2c31c296a3e5983060c6130119279277", func := "posthouse/posthouselaw09.PropsBack", spec := "propsBack", unfollowed := true, recurses := true, named := ["unicode/utf8.first", "unicode/utf8.acceptRanges"], loops := true, apart := false, laid := [("unicode/utf8.acceptRanges", laid_unicode_utf8_acceptRanges), ("unicode/utf8.first", laid_unicode_utf8_first)], narrowed := true }
def PropsBackUptoSaid : Prop := propsBackUptoRow.holds Tryd.pinned (OpenSpec.upto propsBackSpec)

/-- 'posthouselaw09.PropsOne', WHERE WHAT IT READS IS OF BULK AT MOST 1048576: true; the input reads as it did. -/
def propsOneUptoRow : OpenClaim := { program := "ytogkbbnpkckfdaadoor", sum := "4b68eaa281c22b4e936fece03dbcb27f2c31c296a3e5983060c6130119279277", func := "posthouse/posthouselaw09.PropsOne", spec := "propsOne", unfollowed := true, recurses := true, named := ["unicode/utf8.first", "unicode/utf8.acceptRanges"], loops := true, apart := false, laid := [("unicode/utf8.acceptRanges", laid_unicode_utf8_acceptRanges), ("unicode/utf8.first", laid_unicode_utf8_first)], narrowed := true }
def PropsOneUptoSaid : Prop := propsOneUptoRow.holds Tryd.pinned (OpenSpec.upto propsOneSpec)

end Rows
end Go.Proofs.YtogkbbnpkckfdaaDoor
