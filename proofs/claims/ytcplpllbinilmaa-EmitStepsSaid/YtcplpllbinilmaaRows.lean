/-
  No cell of these rows narrows 'for every input' (looked for: loops, veiled, ifaces, maps, wideKeys, modest, calm, conditions, laid).
  DERIVED. THE GIVEN ROWS OF THIS SEAT. 6 by the template 'for every input the law returns true; each argument reads behind the call as it read before'; 0 by the template 'total and deterministic' (their statements: YtcplpllbinilmaaTotals.lean).
  GIVEN WITH THE SEED: the statements are not yours to turn. If you find one false, say at which input.
  Laid BY PROGRAM, IN A SANDBOX (cutbox-rows.mjs): the forced cells as the released guide's own fill.sh prints them over the translation 87450ee5a1b199f0… (all of the seat's roots in one cut). By AI agents, Wed Nov 11 2026. No macro, syntax, notation, axiom, sorry.
-/
import Derived.Test.YtcplpllbinilmaaChecked
import GoSem.Claim
import GoSem.ClaimJoined
import GoSem.ClaimMapViews
import Derived.JoinedTies
import Derived.KernelRfl
namespace Go.Proofs.Ytcplpllbinilmaa
/- THE CELL 'sum', in the pinned program and in every row, IS THE sha256 OF THE DUMP (.gsa) THAT YtcplpllbinilmaaProg.lean LOADS. Nothing in Lean hashes anything: it is a label: what it is worth is what the hold of that sum in a sandbox is worth. -/
noncomputable def Try.pinned : Pinned := { name := "ytcplpllbinilmaa", sum := "87450ee5a1b199f003704f96eac6dbe240b57b816c6b6f3686840669d8581861", checked := Try.checked }
namespace Rows
def none {H : Type} : Left H := { results := [], args := [] }

/-- 'tipstafflaw24.LabelRuns': WHATEVER THE INPUT: true; the input reads as it did. -/
def labelRunsSpec : ChangeSpec := { name := "labelRuns", fn := fun _ => fun
  | [d1, d2] => { results := [.lit (.bool true)], args := [d1, d2] }
  | _ => none }
def labelRunsRow : OpenClaim := { program := "ytcplpllbinilmaa", sum := "87450ee5a1b199f003704f96eac6dbe240b57b816c6b6f3686840669d8581861", func := "tipstaff/tipstafflaw24.LabelRuns", spec := "labelRuns", unfollowed := true, recurses := true, apart := false }
def LabelRunsSaid : Prop := labelRunsRow.holds Try.pinned (OpenSpec.ofChange labelRunsSpec)

/-- ITS FALSE NEIGHBOUR: 'it returns false'. Refute it at one input. -/
def labelRunsWrong : ChangeSpec := { name := "labelRuns", fn := fun _ => fun
  | [d1, d2] => { results := [.lit (.bool false)], args := [d1, d2] }
  | _ => none }
def LabelRunsWrongFalsely : Prop := labelRunsRow.holds Try.pinned (OpenSpec.ofChange labelRunsWrong)

/-- 'tipstafflaw24.LabelChecks': WHATEVER THE INPUT: true; the input reads as it did. -/
def labelChecksSpec : ChangeSpec := { name := "labelChecks", fn := fun _ => fun
  | [d] => { results := [.lit (.bool true)], args := [d] }
  | _ => none }
def labelChecksRow : OpenClaim := { program := "ytcplpllbinilmaa", sum := "87450ee5a1b199f003704f96eac6dbe240b57b816c6b6f3686840669d8581861", func := "tipstaff/tipstafflaw24.LabelChecks", spec := "labelChecks", unfollowed := true, recurses := true, apart := false }
def LabelChecksSaid : Prop := labelChecksRow.holds Try.pinned (OpenSpec.ofChange labelChecksSpec)

/-- ITS FALSE NEIGHBOUR: 'it returns false'. Refute it at one input. -/
def labelChecksWrong : ChangeSpec := { name := "labelChecks", fn := fun _ => fun
  | [d] => { results := [.lit (.bool false)], args := [d] }
  | _ => none }
def LabelChecksWrongFalsely : Prop := labelChecksRow.holds Try.pinned (OpenSpec.ofChange labelChecksWrong)

/-- 'tipstafflaw24.LabelFar': WHATEVER THE INPUT: true; the input reads as it did. -/
def labelFarSpec : ChangeSpec := { name := "labelFar", fn := fun _ => fun
  | [d1, d2, d3] => { results := [.lit (.bool true)], args := [d1, d2, d3] }
  | _ => none }
def labelFarRow : OpenClaim := { program := "ytcplpllbinilmaa", sum := "87450ee5a1b199f003704f96eac6dbe240b57b816c6b6f3686840669d8581861", func := "tipstaff/tipstafflaw24.LabelFar", spec := "labelFar", unfollowed := true, recurses := true, apart := false }
def LabelFarSaid : Prop := labelFarRow.holds Try.pinned (OpenSpec.ofChange labelFarSpec)

/-- ITS FALSE NEIGHBOUR: 'it returns false'. Refute it at one input. -/
def labelFarWrong : ChangeSpec := { name := "labelFar", fn := fun _ => fun
  | [d1, d2, d3] => { results := [.lit (.bool false)], args := [d1, d2, d3] }
  | _ => none }
def LabelFarWrongFalsely : Prop := labelFarRow.holds Try.pinned (OpenSpec.ofChange labelFarWrong)

/-- 'tipstafflaw25.EmitMeans': WHATEVER THE INPUT: true; the input reads as it did. -/
def emitMeansSpec : ChangeSpec := { name := "emitMeans", fn := fun _ => fun
  | [d1, d2, d3] => { results := [.lit (.bool true)], args := [d1, d2, d3] }
  | _ => none }
def emitMeansRow : OpenClaim := { program := "ytcplpllbinilmaa", sum := "87450ee5a1b199f003704f96eac6dbe240b57b816c6b6f3686840669d8581861", func := "tipstaff/tipstafflaw25.EmitMeans", spec := "emitMeans", recurses := true, apart := false }
def EmitMeansSaid : Prop := emitMeansRow.holds Try.pinned (OpenSpec.ofChange emitMeansSpec)

/-- ITS FALSE NEIGHBOUR: 'it returns false'. Refute it at one input. -/
def emitMeansWrong : ChangeSpec := { name := "emitMeans", fn := fun _ => fun
  | [d1, d2, d3] => { results := [.lit (.bool false)], args := [d1, d2, d3] }
  | _ => none }
def EmitMeansWrongFalsely : Prop := emitMeansRow.holds Try.pinned (OpenSpec.ofChange emitMeansWrong)

/-- 'tipstafflaw25.EmitOther': WHATEVER THE INPUT: true; the input reads as it did. -/
def emitOtherSpec : ChangeSpec := { name := "emitOther", fn := fun _ => fun
  | [d1, d2, d3] => { results := [.lit (.bool true)], args := [d1, d2, d3] }
  | _ => none }
def emitOtherRow : OpenClaim := { program := "ytcplpllbinilmaa", sum := "87450ee5a1b199f003704f96eac6dbe240b57b816c6b6f3686840669d8581861", func := "tipstaff/tipstafflaw25.EmitOther", spec := "emitOther", recurses := true, apart := false }
def EmitOtherSaid : Prop := emitOtherRow.holds Try.pinned (OpenSpec.ofChange emitOtherSpec)

/-- ITS FALSE NEIGHBOUR: 'it returns false'. Refute it at one input. -/
def emitOtherWrong : ChangeSpec := { name := "emitOther", fn := fun _ => fun
  | [d1, d2, d3] => { results := [.lit (.bool false)], args := [d1, d2, d3] }
  | _ => none }
def EmitOtherWrongFalsely : Prop := emitOtherRow.holds Try.pinned (OpenSpec.ofChange emitOtherWrong)

/-- 'tipstafflaw25.EmitSteps': WHATEVER THE INPUT: true; the input reads as it did. -/
def emitStepsSpec : ChangeSpec := { name := "emitSteps", fn := fun _ => fun
  | [d1, d2, d3] => { results := [.lit (.bool true)], args := [d1, d2, d3] }
  | _ => none }
def emitStepsRow : OpenClaim := { program := "ytcplpllbinilmaa", sum := "87450ee5a1b199f003704f96eac6dbe240b57b816c6b6f3686840669d8581861", func := "tipstaff/tipstafflaw25.EmitSteps", spec := "emitSteps", unfollowed := true, recurses := true, apart := false }
def EmitStepsSaid : Prop := emitStepsRow.holds Try.pinned (OpenSpec.ofChange emitStepsSpec)

/-- ITS FALSE NEIGHBOUR: 'it returns false'. Refute it at one input. -/
def emitStepsWrong : ChangeSpec := { name := "emitSteps", fn := fun _ => fun
  | [d1, d2, d3] => { results := [.lit (.bool false)], args := [d1, d2, d3] }
  | _ => none }
def EmitStepsWrongFalsely : Prop := emitStepsRow.holds Try.pinned (OpenSpec.ofChange emitStepsWrong)

/- THE SECOND FORM. 'bulk': how many values and letters a reading holds, each counted each time it is reached (what is shared counts as often as it is met; a slice's spare places count too). A statement '..UptoSaid' is the law's where the arguments, and the package variables that the reading takes, are together of bulk at most 1048576: NARROWER than '..Said'. Prove '..Said' where nothing that the law and all that it calls make is longer than what came in: it says more and counts as full. Else prove '..UptoSaid'. A law counts once. -/
mutual
def uptoBulk {H : Type} : DataW H → Nat
  | .lit (.string bytes) => bytes.length + 1
  | .lit _ => 1
  | .nil => 1
  | .ptr d => uptoBulk d + 1
  | .slice elems spare => uptoBulkAll elems + uptoBulkAll spare + 1
  | .agg parts => uptoBulkAll parts + 1
  | .iface _ d => uptoBulk d + 1
  | .map entries => uptoBulkEntries entries + 1
  | .held _ => 1
def uptoBulkAll {H : Type} : List (DataW H) → Nat
  | [] => 0
  | d :: r => uptoBulk d + uptoBulkAll r
def uptoBulkEntries {H : Type} : List (Lit × DataW H) → Nat
  | [] => 0
  | x :: r => uptoBulkEntry x + uptoBulkEntries r
def uptoBulkEntry {H : Type} : Lit × DataW H → Nat
  | (.string bytes, d) => bytes.length + uptoBulk d + 1
  | (_, d) => uptoBulk d + 1
 end
def uptoSmall : (H : Type) → List (DataW H) → Bool := fun _ ds => decide (uptoBulkAll ds ≤ 1048576)
def OpenSpec.upto (s : _root_.Go.ChangeSpec) : _root_.Go.OpenSpec := { _root_.Go.OpenSpec.ofChange s with cond := some uptoSmall }

/-- 'tipstafflaw24.LabelRuns', WHERE WHAT IT READS IS OF BULK AT MOST 1048576: true; the input reads as it did. -/
def labelRunsUptoRow : OpenClaim := { program := "ytcplpllbinilmaa", sum := "87450ee5a1b199f003704f96eac6dbe240b57b816c6b6f3686840669d8581861", func := "tipstaff/tipstafflaw24.LabelRuns", spec := "labelRuns", unfollowed := true, recurses := true, apart := false, narrowed := true }
def LabelRunsUptoSaid : Prop := labelRunsUptoRow.holds Try.pinned (OpenSpec.upto labelRunsSpec)

/-- 'tipstafflaw24.LabelChecks', WHERE WHAT IT READS IS OF BULK AT MOST 1048576: true; the input reads as it did. -/
def labelChecksUptoRow : OpenClaim := { program := "ytcplpllbinilmaa", sum := "87450ee5a1b199f003704f96eac6dbe240b57b816c6b6f3686840669d8581861", func := "tipstaff/tipstafflaw24.LabelChecks", spec := "labelChecks", unfollowed := true, recurses := true, apart := false, narrowed := true }
def LabelChecksUptoSaid : Prop := labelChecksUptoRow.holds Try.pinned (OpenSpec.upto labelChecksSpec)

/-- 'tipstafflaw24.LabelFar', WHERE WHAT IT READS IS OF BULK AT MOST 1048576: true; the input reads as it did. -/
def labelFarUptoRow : OpenClaim := { program := "ytcplpllbinilmaa", sum := "87450ee5a1b199f003704f96eac6dbe240b57b816c6b6f3686840669d8581861", func := "tipstaff/tipstafflaw24.LabelFar", spec := "labelFar", unfollowed := true, recurses := true, apart := false, narrowed := true }
def LabelFarUptoSaid : Prop := labelFarUptoRow.holds Try.pinned (OpenSpec.upto labelFarSpec)

/-- 'tipstafflaw25.EmitMeans', WHERE WHAT IT READS IS OF BULK AT MOST 1048576: true; the input reads as it did. -/
def emitMeansUptoRow : OpenClaim := { program := "ytcplpllbinilmaa", sum := "87450ee5a1b199f003704f96eac6dbe240b57b816c6b6f3686840669d8581861", func := "tipstaff/tipstafflaw25.EmitMeans", spec := "emitMeans", recurses := true, apart := false, narrowed := true }
def EmitMeansUptoSaid : Prop := emitMeansUptoRow.holds Try.pinned (OpenSpec.upto emitMeansSpec)

/-- 'tipstafflaw25.EmitOther', WHERE WHAT IT READS IS OF BULK AT MOST 1048576: true; the input reads as it did. -/
def emitOtherUptoRow : OpenClaim := { program := "ytcplpllbinilmaa", sum := "87450ee5a1b199f003704f96eac6dbe240b57b816c6b6f3686840669d8581861", func := "tipstaff/tipstafflaw25.EmitOther", spec := "emitOther", recurses := true, apart := false, narrowed := true }
def EmitOtherUptoSaid : Prop := emitOtherUptoRow.holds Try.pinned (OpenSpec.upto emitOtherSpec)

/-- 'tipstafflaw25.EmitSteps', WHERE WHAT IT READS IS OF BULK AT MOST 1048576: true; the input reads as it did. -/
def emitStepsUptoRow : OpenClaim := { program := "ytcplpllbinilmaa", sum := "87450ee5a1b199f003704f96eac6dbe240b57b816c6b6f3686840669d8581861", func := "tipstaff/tipstafflaw25.EmitSteps", spec := "emitSteps", unfollowed := true, recurses := true, apart := false, narrowed := true }
def EmitStepsUptoSaid : Prop := emitStepsUptoRow.holds Try.pinned (OpenSpec.upto emitStepsSpec)

end Rows
end Go.Proofs.Ytcplpllbinilmaa
