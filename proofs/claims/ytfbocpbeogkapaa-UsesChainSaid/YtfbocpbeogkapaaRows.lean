/-
  NARROWER THAN 'FOR EVERY INPUT', by the rows' own cells (each row's printed sentence says how): UsesTell: loops · UsesOne: loops.
  DERIVED. THE GIVEN ROWS OF THIS SEAT. 6 by the template 'for every input the law returns true; each argument reads behind the call as it read before'; 0 by the template 'total and deterministic' (their statements: YtfbocpbeogkapaaTotals.lean).
  GIVEN WITH THE SEED: the statements are not yours to turn. If you find one false, say at which input.
  Laid BY PROGRAM, IN A SANDBOX (cutbox-rows.mjs): the forced cells as the released guide's own fill.sh prints them over the translation dfac6287155d4b24… (all of the seat's roots in one cut). By AI agents, Wed Nov 11 2026. No macro, syntax, notation, axiom, sorry.
-/
import Derived.Test.YtfbocpbeogkapaaChecked
import GoSem.Claim
import GoSem.ClaimJoined
import GoSem.ClaimMapViews
import Derived.JoinedTies
import Derived.KernelRfl
namespace Go.Proofs.Ytfbocpbeogkapaa
/- THE CELL 'sum', in the pinned program and in every row, IS THE sha256 OF THE DUMP (.gsa) THAT YtfbocpbeogkapaaProg.lean LOADS. Nothing in Lean hashes anything: it is a label: what it is worth is what the hold of that sum in a sandbox is worth. -/
noncomputable def Try.pinned : Pinned := { name := "ytfbocpbeogkapaa", sum := "dfac6287155d4b241560dd2e23af859f98794048f66ca275a611a1110684a5a1", checked := Try.checked }
namespace Rows
def none {H : Type} : Left H := { results := [], args := [] }

/-- 'tipstafflaw1.InstrTells': WHATEVER THE INPUT: true; the input reads as it did. -/
def instrTellsSpec : ChangeSpec := { name := "instrTells", fn := fun _ => fun
  | [d1, d2] => { results := [.lit (.bool true)], args := [d1, d2] }
  | _ => none }
def instrTellsRow : OpenClaim := { program := "ytfbocpbeogkapaa", sum := "dfac6287155d4b241560dd2e23af859f98794048f66ca275a611a1110684a5a1", func := "tipstaff/tipstafflaw1.InstrTells", spec := "instrTells", apart := false }
def InstrTellsSaid : Prop := instrTellsRow.holds Try.pinned (OpenSpec.ofChange instrTellsSpec)

/-- ITS FALSE NEIGHBOUR: 'it returns false'. Refute it at one input. -/
def instrTellsWrong : ChangeSpec := { name := "instrTells", fn := fun _ => fun
  | [d1, d2] => { results := [.lit (.bool false)], args := [d1, d2] }
  | _ => none }
def InstrTellsWrongFalsely : Prop := instrTellsRow.holds Try.pinned (OpenSpec.ofChange instrTellsWrong)

/-- 'tipstafflaw1.InstrOne': WHATEVER THE INPUT: true; the input reads as it did. -/
def instrOneSpec : ChangeSpec := { name := "instrOne", fn := fun _ => fun
  | [d1, d2, d3, d4, d5] => { results := [.lit (.bool true)], args := [d1, d2, d3, d4, d5] }
  | _ => none }
def instrOneRow : OpenClaim := { program := "ytfbocpbeogkapaa", sum := "dfac6287155d4b241560dd2e23af859f98794048f66ca275a611a1110684a5a1", func := "tipstaff/tipstafflaw1.InstrOne", spec := "instrOne", apart := false }
def InstrOneSaid : Prop := instrOneRow.holds Try.pinned (OpenSpec.ofChange instrOneSpec)

/-- ITS FALSE NEIGHBOUR: 'it returns false'. Refute it at one input. -/
def instrOneWrong : ChangeSpec := { name := "instrOne", fn := fun _ => fun
  | [d1, d2, d3, d4, d5] => { results := [.lit (.bool false)], args := [d1, d2, d3, d4, d5] }
  | _ => none }
def InstrOneWrongFalsely : Prop := instrOneRow.holds Try.pinned (OpenSpec.ofChange instrOneWrong)

/-- 'tipstafflaw1.InstrJoin': WHATEVER THE INPUT: true; the input reads as it did. -/
def instrJoinSpec : ChangeSpec := { name := "instrJoin", fn := fun _ => fun
  | [d1, d2] => { results := [.lit (.bool true)], args := [d1, d2] }
  | _ => none }
def instrJoinRow : OpenClaim := { program := "ytfbocpbeogkapaa", sum := "dfac6287155d4b241560dd2e23af859f98794048f66ca275a611a1110684a5a1", func := "tipstaff/tipstafflaw1.InstrJoin", spec := "instrJoin", apart := false }
def InstrJoinSaid : Prop := instrJoinRow.holds Try.pinned (OpenSpec.ofChange instrJoinSpec)

/-- ITS FALSE NEIGHBOUR: 'it returns false'. Refute it at one input. -/
def instrJoinWrong : ChangeSpec := { name := "instrJoin", fn := fun _ => fun
  | [d1, d2] => { results := [.lit (.bool false)], args := [d1, d2] }
  | _ => none }
def InstrJoinWrongFalsely : Prop := instrJoinRow.holds Try.pinned (OpenSpec.ofChange instrJoinWrong)

/-- 'tipstafflaw15.UsesTell': WHATEVER THE INPUT: true; the input reads as it did. -/
def usesTellSpec : ChangeSpec := { name := "usesTell", fn := fun _ => fun
  | [d1, d2] => { results := [.lit (.bool true)], args := [d1, d2] }
  | _ => none }
def usesTellRow : OpenClaim := { program := "ytfbocpbeogkapaa", sum := "dfac6287155d4b241560dd2e23af859f98794048f66ca275a611a1110684a5a1", func := "tipstaff/tipstafflaw15.UsesTell", spec := "usesTell", recurses := true, loops := true, apart := false }
def UsesTellSaid : Prop := usesTellRow.holds Try.pinned (OpenSpec.ofChange usesTellSpec)

/-- ITS FALSE NEIGHBOUR: 'it returns false'. Refute it at one input. -/
def usesTellWrong : ChangeSpec := { name := "usesTell", fn := fun _ => fun
  | [d1, d2] => { results := [.lit (.bool false)], args := [d1, d2] }
  | _ => none }
def UsesTellWrongFalsely : Prop := usesTellRow.holds Try.pinned (OpenSpec.ofChange usesTellWrong)

/-- 'tipstafflaw15.UsesOne': WHATEVER THE INPUT: true; the input reads as it did. -/
def usesOneSpec : ChangeSpec := { name := "usesOne", fn := fun _ => fun
  | [d] => { results := [.lit (.bool true)], args := [d] }
  | _ => none }
def usesOneRow : OpenClaim := { program := "ytfbocpbeogkapaa", sum := "dfac6287155d4b241560dd2e23af859f98794048f66ca275a611a1110684a5a1", func := "tipstaff/tipstafflaw15.UsesOne", spec := "usesOne", recurses := true, loops := true, apart := false }
def UsesOneSaid : Prop := usesOneRow.holds Try.pinned (OpenSpec.ofChange usesOneSpec)

/-- ITS FALSE NEIGHBOUR: 'it returns false'. Refute it at one input. -/
def usesOneWrong : ChangeSpec := { name := "usesOne", fn := fun _ => fun
  | [d] => { results := [.lit (.bool false)], args := [d] }
  | _ => none }
def UsesOneWrongFalsely : Prop := usesOneRow.holds Try.pinned (OpenSpec.ofChange usesOneWrong)

/-- 'tipstafflaw15.UsesChain': WHATEVER THE INPUT: true; the input reads as it did. -/
def usesChainSpec : ChangeSpec := { name := "usesChain", fn := fun _ => fun
  | [d1, d2] => { results := [.lit (.bool true)], args := [d1, d2] }
  | _ => none }
def usesChainRow : OpenClaim := { program := "ytfbocpbeogkapaa", sum := "dfac6287155d4b241560dd2e23af859f98794048f66ca275a611a1110684a5a1", func := "tipstaff/tipstafflaw15.UsesChain", spec := "usesChain", recurses := true, apart := false }
def UsesChainSaid : Prop := usesChainRow.holds Try.pinned (OpenSpec.ofChange usesChainSpec)

/-- ITS FALSE NEIGHBOUR: 'it returns false'. Refute it at one input. -/
def usesChainWrong : ChangeSpec := { name := "usesChain", fn := fun _ => fun
  | [d1, d2] => { results := [.lit (.bool false)], args := [d1, d2] }
  | _ => none }
def UsesChainWrongFalsely : Prop := usesChainRow.holds Try.pinned (OpenSpec.ofChange usesChainWrong)

/- THE SECOND FORM. 'bulk': how many values and letters a reading holds, each counted each time it is reached (what is shared counts as often as it is met; a slice's spare places count too). A statement '..UptoSaid' is the law's where the arguments, and the package variables that the reading takes, are together of bulk at most 1048576: NARROWER than '..Said'. Prove '..Said' where nothing that the law and all that it calls make is longer than what came in: it says more and counts as full. Else prove '..UptoSaid'. A law counts once. -/
mutual
def uptoBulk {H : Type} : DataW H → Nat
  | .lit (.string bytes) => bytes.length + 1
  | .lit _ => 1
  | .nil => 1
  | .ptr d => uptoBulk d + 1
  | .slice elems spare => uptoBulkAll elems + uptoBulkAll spare + 1
  | .agg parts => uptoBulkAll parts + 1
  | .iface _ d => uptoBulk d + 1
  | .map entries => uptoBulkEntries entries + 1
  | .held _ => 1
def uptoBulkAll {H : Type} : List (DataW H) → Nat
  | [] => 0
  | d :: r => uptoBulk d + uptoBulkAll r
def uptoBulkEntries {H : Type} : List (Lit × DataW H) → Nat
  | [] => 0
  | x :: r => uptoBulkEntry x + uptoBulkEntries r
def uptoBulkEntry {H : Type} : Lit × DataW H → Nat
  | (.string bytes, d) => bytes.length + uptoBulk d + 1
  | (_, d) => uptoBulk d + 1
 end
def uptoSmall : (H : Type) → List (DataW H) → Bool := fun _ ds => decide (uptoBulkAll ds ≤ 1048576)
def OpenSpec.upto (s : _root_.Go.ChangeSpec) : _root_.Go.OpenSpec := { _root_.Go.OpenSpec.ofChange s with cond := some uptoSmall }

/-- 'tipstafflaw1.InstrTells', WHERE WHAT IT READS IS OF BULK AT MOST 1048576: true; the input reads as it did. -/
def instrTellsUptoRow : OpenClaim := { program := "ytfbocpbeogkapaa", sum := "dfac6287155d4b241560dd2e23af859f98794048f66ca275a611a1110684a5a1", func := "tipstaff/tipstafflaw1.InstrTells", spec := "instrTells", apart := false, narrowed := true }
def InstrTellsUptoSaid : Prop := instrTellsUptoRow.holds Try.pinned (OpenSpec.upto instrTellsSpec)

/-- 'tipstafflaw1.InstrOne', WHERE WHAT IT READS IS OF BULK AT MOST 1048576: true; the input reads as it did. -/
def instrOneUptoRow : OpenClaim := { program := "ytfbocpbeogkapaa", sum := "dfac6287155d4b241560dd2e23af859f98794048f66ca275a611a1110684a5a1", func := "tipstaff/tipstafflaw1.InstrOne", spec := "instrOne", apart := false, narrowed := true }
def InstrOneUptoSaid : Prop := instrOneUptoRow.holds Try.pinned (OpenSpec.upto instrOneSpec)

/-- 'tipstafflaw1.InstrJoin', WHERE WHAT IT READS IS OF BULK AT MOST 1048576: true; the input reads as it did. -/
def instrJoinUptoRow : OpenClaim := { program := "ytfbocpbeogkapaa", sum := "dfac6287155d4b241560dd2e23af859f98794048f66ca275a611a1110684a5a1", func := "tipstaff/tipstafflaw1.InstrJoin", spec := "instrJoin", apart := false, narrowed := true }
def InstrJoinUptoSaid : Prop := instrJoinUptoRow.holds Try.pinned (OpenSpec.upto instrJoinSpec)

/-- 'tipstafflaw15.UsesTell', WHERE WHAT IT READS IS OF BULK AT MOST 1048576: true; the input reads as it did. -/
def usesTellUptoRow : OpenClaim := { program := "ytfbocpbeogkapaa", sum := "dfac6287155d4b241560dd2e23af859f98794048f66ca275a611a1110684a5a1", func := "tipstaff/tipstafflaw15.UsesTell", spec := "usesTell", recurses := true, loops := true, apart := false, narrowed := true }
def UsesTellUptoSaid : Prop := usesTellUptoRow.holds Try.pinned (OpenSpec.upto usesTellSpec)

/-- 'tipstafflaw15.UsesOne', WHERE WHAT IT READS IS OF BULK AT MOST 1048576: true; the input reads as it did. -/
def usesOneUptoRow : OpenClaim := { program := "ytfbocpbeogkapaa", sum := "dfac6287155d4b241560dd2e23af859f98794048f66ca275a611a1110684a5a1", func := "tipstaff/tipstafflaw15.UsesOne", spec := "usesOne", recurses := true, loops := true, apart := false, narrowed := true }
def UsesOneUptoSaid : Prop := usesOneUptoRow.holds Try.pinned (OpenSpec.upto usesOneSpec)

/-- 'tipstafflaw15.UsesChain', WHERE WHAT IT READS IS OF BULK AT MOST 1048576: true; the input reads as it did. -/
def usesChainUptoRow : OpenClaim := { program := "ytfbocpbeogkapaa", sum := "dfac6287155d4b241560dd2e23af859f98794048f66ca275a611a1110684a5a1", func := "tipstaff/tipstafflaw15.UsesChain", spec := "usesChain", recurses := true, apart := false, narrowed := true }
def UsesChainUptoSaid : Prop := usesChainUptoRow.holds Try.pinned (OpenSpec.upto usesChainSpec)

end Rows
end Go.Proofs.Ytfbocpbeogkapaa
