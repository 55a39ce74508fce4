/-
  No cell of these rows narrows 'for every input' (looked for: loops, veiled, ifaces, maps, wideKeys, modest, calm, conditions, laid).
  DERIVED. THE GIVEN ROWS OF THIS SEAT. 6 by the template 'for every input the law returns true; each argument reads behind the call as it read before'; 0 by the template 'total and deterministic' (their statements: YtkjlmgfmedehiaaTotals.lean).
  GIVEN WITH THE SEED: the statements are not yours to turn. If you find one false, say at which input.
  Laid BY PROGRAM, IN A SANDBOX (cutbox-rows.mjs): the forced cells as the released guide's own fill.sh prints them over the translation 31f6d049b4b913ca… (all of the seat's roots in one cut). By AI agents, Wed Nov 11 2026. No macro, syntax, notation, axiom, sorry.
-/
import Derived.Test.YtkjlmgfmedehiaaChecked
import GoSem.Claim
import GoSem.ClaimJoined
import GoSem.ClaimMapViews
import Derived.JoinedTies
import Derived.KernelRfl
namespace Go.Proofs.Ytkjlmgfmedehiaa
/- THE CELL 'sum', in the pinned program and in every row, IS THE sha256 OF THE DUMP (.gsa) THAT YtkjlmgfmedehiaaProg.lean LOADS. Nothing in Lean hashes anything: it is a label: what it is worth is what the hold of that sum in a sandbox is worth. -/
noncomputable def Try.pinned : Pinned := { name := "ytkjlmgfmedehiaa", sum := "31f6d049b4b913ca73b80dfe9389bed7d29dfa09665fcc30ea7a22de0255d489", checked := Try.checked }
namespace Rows
def none {H : Type} : Left H := { results := [], args := [] }

/-- 'tipstafflaw12.ParseRanks': WHATEVER THE INPUT: true; the input reads as it did. -/
def parseRanksSpec : ChangeSpec := { name := "parseRanks", fn := fun _ => fun
  | [d] => { results := [.lit (.bool true)], args := [d] }
  | _ => none }
def parseRanksRow : OpenClaim := { program := "ytkjlmgfmedehiaa", sum := "31f6d049b4b913ca73b80dfe9389bed7d29dfa09665fcc30ea7a22de0255d489", func := "tipstaff/tipstafflaw12.ParseRanks", spec := "parseRanks", inPlace := ["math/bits.Add64"], unfollowed := true, recurses := true, apart := false }
def ParseRanksSaid : Prop := parseRanksRow.holds Try.pinned (OpenSpec.ofChange parseRanksSpec)

/-- ITS FALSE NEIGHBOUR: 'it returns false'. Refute it at one input. -/
def parseRanksWrong : ChangeSpec := { name := "parseRanks", fn := fun _ => fun
  | [d] => { results := [.lit (.bool false)], args := [d] }
  | _ => none }
def ParseRanksWrongFalsely : Prop := parseRanksRow.holds Try.pinned (OpenSpec.ofChange parseRanksWrong)

/-- 'tipstafflaw12.ParseWrong': WHATEVER THE INPUT: true; the input reads as it did. -/
def parseWrongSpec : ChangeSpec := { name := "parseWrong", fn := fun _ => fun
  | [d] => { results := [.lit (.bool true)], args := [d] }
  | _ => none }
def parseWrongRow : OpenClaim := { program := "ytkjlmgfmedehiaa", sum := "31f6d049b4b913ca73b80dfe9389bed7d29dfa09665fcc30ea7a22de0255d489", func := "tipstaff/tipstafflaw12.ParseWrong", spec := "parseWrong", inPlace := ["math/bits.Add64"], unfollowed := true, recurses := true, apart := false }
def ParseWrongSaid : Prop := parseWrongRow.holds Try.pinned (OpenSpec.ofChange parseWrongSpec)

/-- ITS FALSE NEIGHBOUR: 'it returns false'. Refute it at one input. -/
def parseWrongWrong : ChangeSpec := { name := "parseWrong", fn := fun _ => fun
  | [d] => { results := [.lit (.bool false)], args := [d] }
  | _ => none }
def ParseWrongWrongFalsely : Prop := parseWrongRow.holds Try.pinned (OpenSpec.ofChange parseWrongWrong)

/-- 'tipstafflaw9.TokenTells': WHATEVER THE INPUT: true; the input reads as it did. -/
def tokenTellsSpec : ChangeSpec := { name := "tokenTells", fn := fun _ => fun
  | [d1, d2] => { results := [.lit (.bool true)], args := [d1, d2] }
  | _ => none }
def tokenTellsRow : OpenClaim := { program := "ytkjlmgfmedehiaa", sum := "31f6d049b4b913ca73b80dfe9389bed7d29dfa09665fcc30ea7a22de0255d489", func := "tipstaff/tipstafflaw9.TokenTells", spec := "tokenTells", inPlace := ["internal/bytealg.IndexByteString", "internal/bytealg.IndexString", "internal/bytealg.CountString", "math/bits.Add64"], unfollowed := true, recurses := true, named := ["internal/bytealg.MaxLen"], apart := false }
def TokenTellsSaid : Prop := tokenTellsRow.holds Try.pinned (OpenSpec.ofChange tokenTellsSpec)

/-- ITS FALSE NEIGHBOUR: 'it returns false'. Refute it at one input. -/
def tokenTellsWrong : ChangeSpec := { name := "tokenTells", fn := fun _ => fun
  | [d1, d2] => { results := [.lit (.bool false)], args := [d1, d2] }
  | _ => none }
def TokenTellsWrongFalsely : Prop := tokenTellsRow.holds Try.pinned (OpenSpec.ofChange tokenTellsWrong)

/-- 'tipstafflaw9.TokenBlank': WHATEVER THE INPUT: true; the input reads as it did. -/
def tokenBlankSpec : ChangeSpec := { name := "tokenBlank", fn := fun _ => fun
  | [d1, d2] => { results := [.lit (.bool true)], args := [d1, d2] }
  | _ => none }
def tokenBlankRow : OpenClaim := { program := "ytkjlmgfmedehiaa", sum := "31f6d049b4b913ca73b80dfe9389bed7d29dfa09665fcc30ea7a22de0255d489", func := "tipstaff/tipstafflaw9.TokenBlank", spec := "tokenBlank", inPlace := ["internal/bytealg.IndexByteString", "internal/bytealg.IndexString", "internal/bytealg.CountString", "math/bits.Add64"], unfollowed := true, recurses := true, named := ["internal/bytealg.MaxLen"], apart := false }
def TokenBlankSaid : Prop := tokenBlankRow.holds Try.pinned (OpenSpec.ofChange tokenBlankSpec)

/-- ITS FALSE NEIGHBOUR: 'it returns false'. Refute it at one input. -/
def tokenBlankWrong : ChangeSpec := { name := "tokenBlank", fn := fun _ => fun
  | [d1, d2] => { results := [.lit (.bool false)], args := [d1, d2] }
  | _ => none }
def TokenBlankWrongFalsely : Prop := tokenBlankRow.holds Try.pinned (OpenSpec.ofChange tokenBlankWrong)

/-- 'tipstafflaw9.TokenWrong': WHATEVER THE INPUT: true; the input reads as it did. -/
def tokenWrongSpec : ChangeSpec := { name := "tokenWrong", fn := fun _ => fun
  | [d] => { results := [.lit (.bool true)], args := [d] }
  | _ => none }
def tokenWrongRow : OpenClaim := { program := "ytkjlmgfmedehiaa", sum := "31f6d049b4b913ca73b80dfe9389bed7d29dfa09665fcc30ea7a22de0255d489", func := "tipstaff/tipstafflaw9.TokenWrong", spec := "tokenWrong", inPlace := ["internal/bytealg.IndexByteString", "internal/bytealg.IndexString", "internal/bytealg.CountString", "math/bits.Add64"], unfollowed := true, recurses := true, named := ["internal/bytealg.MaxLen"], apart := false }
def TokenWrongSaid : Prop := tokenWrongRow.holds Try.pinned (OpenSpec.ofChange tokenWrongSpec)

/-- ITS FALSE NEIGHBOUR: 'it returns false'. Refute it at one input. -/
def tokenWrongWrong : ChangeSpec := { name := "tokenWrong", fn := fun _ => fun
  | [d] => { results := [.lit (.bool false)], args := [d] }
  | _ => none }
def TokenWrongWrongFalsely : Prop := tokenWrongRow.holds Try.pinned (OpenSpec.ofChange tokenWrongWrong)

/-- 'tipstafflaw9.TokenJoin': WHATEVER THE INPUT: true; the input reads as it did. -/
def tokenJoinSpec : ChangeSpec := { name := "tokenJoin", fn := fun _ => fun
  | [d1, d2] => { results := [.lit (.bool true)], args := [d1, d2] }
  | _ => none }
def tokenJoinRow : OpenClaim := { program := "ytkjlmgfmedehiaa", sum := "31f6d049b4b913ca73b80dfe9389bed7d29dfa09665fcc30ea7a22de0255d489", func := "tipstaff/tipstafflaw9.TokenJoin", spec := "tokenJoin", inPlace := ["internal/bytealg.IndexByteString", "internal/bytealg.IndexString", "internal/bytealg.CountString", "math/bits.Add64"], unfollowed := true, recurses := true, named := ["internal/bytealg.MaxLen"], apart := false }
def TokenJoinSaid : Prop := tokenJoinRow.holds Try.pinned (OpenSpec.ofChange tokenJoinSpec)

/-- ITS FALSE NEIGHBOUR: 'it returns false'. Refute it at one input. -/
def tokenJoinWrong : ChangeSpec := { name := "tokenJoin", fn := fun _ => fun
  | [d1, d2] => { results := [.lit (.bool false)], args := [d1, d2] }
  | _ => none }
def TokenJoinWrongFalsely : Prop := tokenJoinRow.holds Try.pinned (OpenSpec.ofChange tokenJoinWrong)

/- THE SECOND FORM. 'bulk': how many values and letters a reading holds, each counted each time it is reached (what is shared counts as often as it is met; a slice's spare places count too). A statement '..UptoSaid' is the law's where the arguments, and the package variables that the reading takes, are together of bulk at most 1048576: NARROWER than '..Said'. Prove '..Said' where nothing that the law and all that it calls make is longer than what came in: it says more and counts as full. Else prove '..UptoSaid'. A law counts once. -/
mutual
def uptoBulk {H : Type} : DataW H → Nat
  | .lit (.string bytes) => bytes.length + 1
  | .lit _ => 1
  | .nil => 1
  | .ptr d => uptoBulk d + 1
  | .slice elems spare => uptoBulkAll elems + uptoBulkAll spare + 1
  | .agg parts => uptoBulkAll parts + 1
  | .iface _ d => uptoBulk d + 1
  | .map entries => uptoBulkEntries entries + 1
  | .held _ => 1
def uptoBulkAll {H : Type} : List (DataW H) → Nat
  | [] => 0
  | d :: r => uptoBulk d + uptoBulkAll r
def uptoBulkEntries {H : Type} : List (Lit × DataW H) → Nat
  | [] => 0
  | x :: r => uptoBulkEntry x + uptoBulkEntries r
def uptoBulkEntry {H : Type} : Lit × DataW H → Nat
  | (.string bytes, d) => bytes.length + uptoBulk d + 1
  | (_, d) => uptoBulk d + 1
 end
def uptoSmall : (H : Type) → List (DataW H) → Bool := fun _ ds => decide (uptoBulkAll ds ≤ 1048576)
def OpenSpec.upto (s : _root_.Go.ChangeSpec) : _root_.Go.OpenSpec := { _root_.Go.OpenSpec.ofChange s with cond := some uptoSmall }

/-- 'tipstafflaw12.ParseRanks', WHERE WHAT IT READS IS OF BULK AT MOST 1048576: true; the input reads as it did. -/
def parseRanksUptoRow : OpenClaim := { program := "ytkjlmgfmedehiaa", sum := "31f6d049b4b913ca73b80dfe9389bed7d29dfa09665fcc30ea7a22de0255d489", func := "tipstaff/tipstafflaw12.ParseRanks", spec := "parseRanks", inPlace := ["math/bits.Add64"], unfollowed := true, recurses := true, apart := false, narrowed := true }
def ParseRanksUptoSaid : Prop := parseRanksUptoRow.holds Try.pinned (OpenSpec.upto parseRanksSpec)

/-- 'tipstafflaw12.ParseWrong', WHERE WHAT IT READS IS OF BULK AT MOST 1048576: true; the input reads as it did. -/
def parseWrongUptoRow : OpenClaim := { program := "ytkjlmgfmedehiaa", sum := "31f6d049b4b913ca73b80dfe9389bed7d29dfa09665fcc30ea7a22de0255d489", func := "tipstaff/tipstafflaw12.ParseWrong", spec := "parseWrong", inPlace := ["math/bits.Add64"], unfollowed := true, recurses := true, apart := false, narrowed := true }
def ParseWrongUptoSaid : Prop := parseWrongUptoRow.holds Try.pinned (OpenSpec.upto parseWrongSpec)

/-- 'tipstafflaw9.TokenTells', WHERE WHAT IT READS IS OF BULK AT MOST 1048576: true; the input reads as it did. -/
def tokenTellsUptoRow : OpenClaim := { program := "ytkjlmgfmedehiaa", sum := "31f6d049b4b913ca73b80dfe9389bed7d29dfa09665fcc30ea7a22de0255d489", func := "tipstaff/tipstafflaw9.TokenTells", spec := "tokenTells", inPlace := ["internal/bytealg.IndexByteString", "internal/bytealg.IndexString", "internal/bytealg.CountString", "math/bits.Add64"], unfollowed := true, recurses := true, named := ["internal/bytealg.MaxLen"], apart := false, narrowed := true }
def TokenTellsUptoSaid : Prop := tokenTellsUptoRow.holds Try.pinned (OpenSpec.upto tokenTellsSpec)

/-- 'tipstafflaw9.TokenBlank', WHERE WHAT IT READS IS OF BULK AT MOST 1048576: true; the input reads as it did. -/
def tokenBlankUptoRow : OpenClaim := { program := "ytkjlmgfmedehiaa", sum := "31f6d049b4b913ca73b80dfe9389bed7d29dfa09665fcc30ea7a22de0255d489", func := "tipstaff/tipstafflaw9.TokenBlank", spec := "tokenBlank", inPlace := ["internal/bytealg.IndexByteString", "internal/bytealg.IndexString", "internal/bytealg.CountString", "math/bits.Add64"], unfollowed := true, recurses := true, named := ["internal/bytealg.MaxLen"], apart := false, narrowed := true }
def TokenBlankUptoSaid : Prop := tokenBlankUptoRow.holds Try.pinned (OpenSpec.upto tokenBlankSpec)

/-- 'tipstafflaw9.TokenWrong', WHERE WHAT IT READS IS OF BULK AT MOST 1048576: true; the input reads as it did. -/
def tokenWrongUptoRow : OpenClaim := { program := "ytkjlmgfmedehiaa", sum := "31f6d049b4b913ca73b80dfe9389bed7d29dfa09665fcc30ea7a22de0255d489", func := "tipstaff/tipstafflaw9.TokenWrong", spec := "tokenWrong", inPlace := ["internal/bytealg.IndexByteString", "internal/bytealg.IndexString", "internal/bytealg.CountString", "math/bits.Add64"], unfollowed := true, recurses := true, named := ["internal/bytealg.MaxLen"], apart := false, narrowed := true }
def TokenWrongUptoSaid : Prop := tokenWrongUptoRow.holds Try.pinned (OpenSpec.upto tokenWrongSpec)

/-- 'tipstafflaw9.TokenJoin', WHERE WHAT IT READS IS OF BULK AT MOST 1048576: true; the input reads as it did. -/
def tokenJoinUptoRow : OpenClaim := { program := "ytkjlmgfmedehiaa", sum := "31f6d049b4b913ca73b80dfe9389bed7d29dfa09665fcc30ea7a22de0255d489", func := "tipstaff/tipstafflaw9.TokenJoin", spec := "tokenJoin", inPlace := ["internal/bytealg.IndexByteString", "internal/bytealg.IndexString", "internal/bytealg.CountString", "math/bits.Add64"], unfollowed := true, recurses := true, named := ["internal/bytealg.MaxLen"], apart := false, narrowed := true }
def TokenJoinUptoSaid : Prop := tokenJoinUptoRow.holds Try.pinned (OpenSpec.upto tokenJoinSpec)

end Rows
end Go.Proofs.Ytkjlmgfmedehiaa
