/-
  No cell of these rows narrows 'for every input' (looked for: loops, veiled, ifaces, maps, wideKeys, modest, calm, conditions, laid).
  DERIVED. THE GIVEN ROWS OF THIS SEAT. 6 by the template 'for every input the law returns true; each argument reads behind the call as it read before'; 0 by the template 'total and deterministic' (their statements: YtceccgnpkelpkaaTotals.lean).
  GIVEN WITH THE SEED: the statements are not yours to turn. If you find one false, say at which input.
  Laid BY PROGRAM, IN A SANDBOX (cutbox-rows.mjs): the forced cells as the released guide's own fill.sh prints them over the translation 42d549eb69f9b64b… (all of the seat's roots in one cut). By AI agents, Wed Nov 11 2026. No macro, syntax, notation, axiom, sorry.
-/
import Derived.Test.YtceccgnpkelpkaaChecked
import GoSem.Claim
import GoSem.ClaimJoined
import GoSem.ClaimMapViews
import Derived.JoinedTies
import Derived.KernelRfl
namespace Go.Proofs.Ytceccgnpkelpkaa
/- THE CELL 'sum', in the pinned program and in every row, IS THE sha256 OF THE DUMP (.gsa) THAT YtceccgnpkelpkaaProg.lean LOADS. Nothing in Lean hashes anything: it is a label: what it is worth is what the hold of that sum in a sandbox is worth. -/
noncomputable def Try.pinned : Pinned := { name := "ytceccgnpkelpkaa", sum := "42d549eb69f9b64b32170ae31561b43461ab79087b101c1f06a6ab52d635d113", checked := Try.checked }
namespace Rows
def none {H : Type} : Left H := { results := [], args := [] }

/-- 'tipstafflaw11.TreeKinds': WHATEVER THE INPUT: true; the input reads as it did. -/
def treeKindsSpec : ChangeSpec := { name := "treeKinds", fn := fun _ => fun
  | [d] => { results := [.lit (.bool true)], args := [d] }
  | _ => none }
def treeKindsRow : OpenClaim := { program := "ytceccgnpkelpkaa", sum := "42d549eb69f9b64b32170ae31561b43461ab79087b101c1f06a6ab52d635d113", func := "tipstaff/tipstafflaw11.TreeKinds", spec := "treeKinds", unfollowed := true, recurses := true, apart := false }
def TreeKindsSaid : Prop := treeKindsRow.holds Try.pinned (OpenSpec.ofChange treeKindsSpec)

/-- ITS FALSE NEIGHBOUR: 'it returns false'. Refute it at one input. -/
def treeKindsWrong : ChangeSpec := { name := "treeKinds", fn := fun _ => fun
  | [d] => { results := [.lit (.bool false)], args := [d] }
  | _ => none }
def TreeKindsWrongFalsely : Prop := treeKindsRow.holds Try.pinned (OpenSpec.ofChange treeKindsWrong)

/-- 'tipstafflaw23.SpansTell': WHATEVER THE INPUT: true; the input reads as it did. -/
def spansTellSpec : ChangeSpec := { name := "spansTell", fn := fun _ => fun
  | [d1, d2, d3] => { results := [.lit (.bool true)], args := [d1, d2, d3] }
  | _ => none }
def spansTellRow : OpenClaim := { program := "ytceccgnpkelpkaa", sum := "42d549eb69f9b64b32170ae31561b43461ab79087b101c1f06a6ab52d635d113", func := "tipstaff/tipstafflaw23.SpansTell", spec := "spansTell", unfollowed := true, recurses := true, apart := false }
def SpansTellSaid : Prop := spansTellRow.holds Try.pinned (OpenSpec.ofChange spansTellSpec)

/-- ITS FALSE NEIGHBOUR: 'it returns false'. Refute it at one input. -/
def spansTellWrong : ChangeSpec := { name := "spansTell", fn := fun _ => fun
  | [d1, d2, d3] => { results := [.lit (.bool false)], args := [d1, d2, d3] }
  | _ => none }
def SpansTellWrongFalsely : Prop := spansTellRow.holds Try.pinned (OpenSpec.ofChange spansTellWrong)

/-- 'tipstafflaw23.SpansAll': WHATEVER THE INPUT: true; the input reads as it did. -/
def spansAllSpec : ChangeSpec := { name := "spansAll", fn := fun _ => fun
  | [d1, d2, d3, d4] => { results := [.lit (.bool true)], args := [d1, d2, d3, d4] }
  | _ => none }
def spansAllRow : OpenClaim := { program := "ytceccgnpkelpkaa", sum := "42d549eb69f9b64b32170ae31561b43461ab79087b101c1f06a6ab52d635d113", func := "tipstaff/tipstafflaw23.SpansAll", spec := "spansAll", unfollowed := true, recurses := true, apart := false }
def SpansAllSaid : Prop := spansAllRow.holds Try.pinned (OpenSpec.ofChange spansAllSpec)

/-- ITS FALSE NEIGHBOUR: 'it returns false'. Refute it at one input. -/
def spansAllWrong : ChangeSpec := { name := "spansAll", fn := fun _ => fun
  | [d1, d2, d3, d4] => { results := [.lit (.bool false)], args := [d1, d2, d3, d4] }
  | _ => none }
def SpansAllWrongFalsely : Prop := spansAllRow.holds Try.pinned (OpenSpec.ofChange spansAllWrong)

/-- 'tipstafflaw23.SpansFew': WHATEVER THE INPUT: true; the input reads as it did. -/
def spansFewSpec : ChangeSpec := { name := "spansFew", fn := fun _ => fun
  | [d1, d2, d3, d4] => { results := [.lit (.bool true)], args := [d1, d2, d3, d4] }
  | _ => none }
def spansFewRow : OpenClaim := { program := "ytceccgnpkelpkaa", sum := "42d549eb69f9b64b32170ae31561b43461ab79087b101c1f06a6ab52d635d113", func := "tipstaff/tipstafflaw23.SpansFew", spec := "spansFew", unfollowed := true, recurses := true, apart := false }
def SpansFewSaid : Prop := spansFewRow.holds Try.pinned (OpenSpec.ofChange spansFewSpec)

/-- ITS FALSE NEIGHBOUR: 'it returns false'. Refute it at one input. -/
def spansFewWrong : ChangeSpec := { name := "spansFew", fn := fun _ => fun
  | [d1, d2, d3, d4] => { results := [.lit (.bool false)], args := [d1, d2, d3, d4] }
  | _ => none }
def SpansFewWrongFalsely : Prop := spansFewRow.holds Try.pinned (OpenSpec.ofChange spansFewWrong)

/-- 'tipstafflaw14.ConstsChain': WHATEVER THE INPUT: true; the input reads as it did. -/
def constsChainSpec : ChangeSpec := { name := "constsChain", fn := fun _ => fun
  | [d1, d2] => { results := [.lit (.bool true)], args := [d1, d2] }
  | _ => none }
def constsChainRow : OpenClaim := { program := "ytceccgnpkelpkaa", sum := "42d549eb69f9b64b32170ae31561b43461ab79087b101c1f06a6ab52d635d113", func := "tipstaff/tipstafflaw14.ConstsChain", spec := "constsChain", unfollowed := true, recurses := true, apart := false }
def ConstsChainSaid : Prop := constsChainRow.holds Try.pinned (OpenSpec.ofChange constsChainSpec)

/-- ITS FALSE NEIGHBOUR: 'it returns false'. Refute it at one input. -/
def constsChainWrong : ChangeSpec := { name := "constsChain", fn := fun _ => fun
  | [d1, d2] => { results := [.lit (.bool false)], args := [d1, d2] }
  | _ => none }
def ConstsChainWrongFalsely : Prop := constsChainRow.holds Try.pinned (OpenSpec.ofChange constsChainWrong)

/-- 'tipstafflaw24.LabelRuns': WHATEVER THE INPUT: true; the input reads as it did. -/
def labelRunsSpec : ChangeSpec := { name := "labelRuns", fn := fun _ => fun
  | [d1, d2] => { results := [.lit (.bool true)], args := [d1, d2] }
  | _ => none }
def labelRunsRow : OpenClaim := { program := "ytceccgnpkelpkaa", sum := "42d549eb69f9b64b32170ae31561b43461ab79087b101c1f06a6ab52d635d113", func := "tipstaff/tipstafflaw24.LabelRuns", spec := "labelRuns", unfollowed := true, recurses := true, apart := false }
def LabelRunsSaid : Prop := labelRunsRow.holds Try.pinned (OpenSpec.ofChange labelRunsSpec)

/-- ITS FALSE NEIGHBOUR: 'it returns false'. Refute it at one input. -/
def labelRunsWrong : ChangeSpec := { name := "labelRuns", fn := fun _ => fun
  | [d1, d2] => { results := [.lit (.bool false)], args := [d1, d2] }
  | _ => none }
def LabelRunsWrongFalsely : Prop := labelRunsRow.holds Try.pinned (OpenSpec.ofChange labelRunsWrong)

/- THE SECOND FORM. 'bulk': how many values and letters a reading holds, each counted each time it is reached (what is shared counts as often as it is met; a slice's spare places count too). A statement '..UptoSaid' is the law's where the arguments, and the package variables that the reading takes, are together of bulk at most 1048576: NARROWER than '..Said'. Prove '..Said' where nothing that the law and all that it calls make is longer than what came in: it says more and counts as full. Else prove '..UptoSaid'. A law counts once. -/
mutual
def uptoBulk {H : Type} : DataW H → Nat
  | .lit (.string bytes) => bytes.length + 1
  | .lit _ => 1
  | .nil => 1
  | .ptr d => uptoBulk d + 1
  | .slice elems spare => uptoBulkAll elems + uptoBulkAll spare + 1
  | .agg parts => uptoBulkAll parts + 1
  | .iface _ d => uptoBulk d + 1
  | .map entries => uptoBulkEntries entries + 1
  | .held _ => 1
def uptoBulkAll {H : Type} : List (DataW H) → Nat
  | [] => 0
  | d :: r => uptoBulk d + uptoBulkAll r
def uptoBulkEntries {H : Type} : List (Lit × DataW H) → Nat
  | [] => 0
  | x :: r => uptoBulkEntry x + uptoBulkEntries r
def uptoBulkEntry {H : Type} : Lit × DataW H → Nat
  | (.string bytes, d) => bytes.length + uptoBulk d + 1
  | (_, d) => uptoBulk d + 1
 end
def uptoSmall : (H : Type) → List (DataW H) → Bool := fun _ ds => decide (uptoBulkAll ds ≤ 1048576)
def OpenSpec.upto (s : _root_.Go.ChangeSpec) : _root_.Go.OpenSpec := { _root_.Go.OpenSpec.ofChange s with cond := some uptoSmall }

/-- 'tipstafflaw11.TreeKinds', WHERE WHAT IT READS IS OF BULK AT MOST 1048576: true; the input reads as it did. -/
def treeKindsUptoRow : OpenClaim := { program := "ytceccgnpkelpkaa", sum := "42d549eb69f9b64b32170ae31561b43461ab79087b101c1f06a6ab52d635d113", func := "tipstaff/tipstafflaw11.TreeKinds", spec := "treeKinds", unfollowed := true, recurses := true, apart := false, narrowed := true }
def TreeKindsUptoSaid : Prop := treeKindsUptoRow.holds Try.pinned (OpenSpec.upto treeKindsSpec)

/-- 'tipstafflaw23.SpansTell', WHERE WHAT IT READS IS OF BULK AT MOST 1048576: true; the input reads as it did. -/
def spansTellUptoRow : OpenClaim := { program := "ytceccgnpkelpkaa", sum := "42d549eb69f9b64b32170ae31561b43461ab79087b101c1f06a6ab52d635d113", func := "tipstaff/tipstafflaw23.SpansTell", spec := "spansTell", unfollowed := true, recurses := true, apart := false, narrowed := true }
def SpansTellUptoSaid : Prop := spansTellUptoRow.holds Try.pinned (OpenSpec.upto spansTellSpec)

/-- 'tipstafflaw23.SpansAll', WHERE WHAT IT READS IS OF BULK AT MOST 1048576: true; the input reads as it did. -/
def spansAllUptoRow : OpenClaim := { program := "ytceccgnpkelpkaa", sum := "42d549eb69f9b64b32170ae31561b43461ab79087b101c1f06a6ab52d635d113", func := "tipstaff/tipstafflaw23.SpansAll", spec := "spansAll", unfollowed := true, recurses := true, apart := false, narrowed := true }
def SpansAllUptoSaid : Prop := spansAllUptoRow.holds Try.pinned (OpenSpec.upto spansAllSpec)

/-- 'tipstafflaw23.SpansFew', WHERE WHAT IT READS IS OF BULK AT MOST 1048576: true; the input reads as it did. -/
def spansFewUptoRow : OpenClaim := { program := "ytceccgnpkelpkaa", sum := "42d549eb69f9b64b32170ae31561b43461ab79087b101c1f06a6ab52d635d113", func := "tipstaff/tipstafflaw23.SpansFew", spec := "spansFew", unfollowed := true, recurses := true, apart := false, narrowed := true }
def SpansFewUptoSaid : Prop := spansFewUptoRow.holds Try.pinned (OpenSpec.upto spansFewSpec)

/-- 'tipstafflaw14.ConstsChain', WHERE WHAT IT READS IS OF BULK AT MOST 1048576: true; the input reads as it did. -/
def constsChainUptoRow : OpenClaim := { program := "ytceccgnpkelpkaa", sum := "42d549eb69f9b64b32170ae31561b43461ab79087b101c1f06a6ab52d635d113", func := "tipstaff/tipstafflaw14.ConstsChain", spec := "constsChain", unfollowed := true, recurses := true, apart := false, narrowed := true }
def ConstsChainUptoSaid : Prop := constsChainUptoRow.holds Try.pinned (OpenSpec.upto constsChainSpec)

/-- 'tipstafflaw24.LabelRuns', WHERE WHAT IT READS IS OF BULK AT MOST 1048576: true; the input reads as it did. -/
def labelRunsUptoRow : OpenClaim := { program := "ytceccgnpkelpkaa", sum := "42d549eb69f9b64b32170ae31561b43461ab79087b101c1f06a6ab52d635d113", func := "tipstaff/tipstafflaw24.LabelRuns", spec := "labelRuns", unfollowed := true, recurses := true, apart := false, narrowed := true }
def LabelRunsUptoSaid : Prop := labelRunsUptoRow.holds Try.pinned (OpenSpec.upto labelRunsSpec)

end Rows
end Go.Proofs.Ytceccgnpkelpkaa
