/-
  NARROWER THAN 'FOR EVERY INPUT', by the rows' own cells (each row's printed sentence says how): FilesTell: laid · FilesClean: laid · WeaveTells: laid · WeaveInline: laid · WeaveDeep: laid · WeaveTwice: laid.
  DERIVED. THE GIVEN ROWS OF THIS SEAT. 6 by the template 'for every input the law returns true; each argument reads behind the call as it read before'; 0 by the template 'total and deterministic' (their statements: YtcmhpjnafkpofaaDoorTotals.lean).
  GIVEN WITH THE SEED: the statements are not yours to turn. If you find one false, say at which input.
  Laid BY PROGRAM, IN A SANDBOX (cutbox-rows.mjs): the forced cells as the released guide's own fill.sh prints them over the translation 87a30a611d694563… (all of the seat's roots in one cut). By AI agents, Wed Nov 11 2026. No macro, syntax, notation, axiom, sorry.
-/
import Derived.Test.YtcmhpjnafkpofaaDoorChecked
import GoSem.PinnedTables
import GoSem.Claim
import GoSem.ClaimJoined
import GoSem.ClaimMapViews
import Derived.JoinedTies
import Derived.KernelRfl
namespace Go.Proofs.YtcmhpjnafkpofaaDoor
/- THE CELL 'sum', in the pinned program and in every row, IS THE sha256 OF THE DUMP (.gsa) THAT YtcmhpjnafkpofaaDoorProg.lean LOADS. Nothing in Lean hashes anything: it is a label: what it is worth is what the hold of that sum in a sandbox is worth. -/
noncomputable def Tryd.pinned : Pinned := { name := "ytcmhpjnafkpofaadoor", sum := "87a30a611d694563237e9f621698f8ed80f1736ec102fb51729d8816d092cf58", checked := Tryd.checked }
namespace Rows
def none {H : Type} : Left H := { results := [], args := [] }

/- WHAT THE LISTED PACKAGE-LEVEL VARIABLES READ AS WHEN THE CALL BEGINS. Each datum BY PROGRAM (the guide's laid-datum.mjs) off the statement by which the dump's own 'gosem.cut.vars' lays the variable. In a bare row this is a premise. The card (YtcmhpjnafkpofaaDoorCards.lean) ties it to the program's text. -/
def laid_unicode_utf8_acceptRanges {H : Type} : DataW H := .agg [.agg [.lit (.int .u8 128), .lit (.int .u8 191)], .agg [.lit (.int .u8 160), .lit (.int .u8 191)], .agg [.lit (.int .u8 128), .lit (.int .u8 159)], .agg [.lit (.int .u8 144), .lit (.int .u8 191)], .agg [.lit (.int .u8 128), .lit (.int .u8 143)], .agg [.lit (.int .u8 0), .lit (.int .u8 0)], .agg [.lit (.int .u8 0), .lit (.int .u8 0)], .agg [.lit (.int .u8 0), .lit (.int .u8 0)], .agg [.lit (.int .u8 0), .lit (.int .u8 0)], .agg [.lit (.int .u8 0), .lit (.int .u8 0)], .agg [.lit (.int .u8 0), .lit (.int .u8 0)], .agg [.lit (.int .u8 0), .lit (.int .u8 0)], .agg [.lit (.int .u8 0), .lit (.int .u8 0)], .agg [.lit (.int .u8 0), .lit (.int .u8 0)], .agg [.lit (.int .u8 0), .lit (.int .u8 0)], .agg [.lit (.int .u8 0), .lit (.int .u8 0)]]
/-- One of Go's own tables, pinned by name: the form's constant. -/
def laid_unicode_utf8_first : DataW Unit := Go.Pinned.utf8First

/-- 'tipstafflaw8.FilesTell': WHATEVER THE INPUT: true; the input reads as it did. -/
def filesTellSpec : ChangeSpec := { name := "filesTell", fn := fun _ => fun
  | [d1, d2, d3] => { results := [.lit (.bool true)], args := [d1, d2, d3] }
  | _ => none }
def filesTellRow : OpenClaim := { program := "ytcmhpjnafkpofaadoor", sum := "87a30a611d694563237e9f621698f8ed80f1736ec102fb51729d8816d092cf58", func := "tipstaff/tipstafflaw8.FilesTell", spec := "filesTell", inPlace := ["internal/bytealg.CountString", "internal/bytealg.IndexByteString", "internal/bytealg.IndexString", "internal/abi.NoEscape", "internal/bytealg.MakeNoZero"], unfollowed := true, recurses := true, named := ["unicode/utf8.first", "unicode/utf8.acceptRanges", "internal/bytealg.MaxLen"], apart := false, laid := [("unicode/utf8.acceptRanges", laid_unicode_utf8_acceptRanges), ("unicode/utf8.first", laid_unicode_utf8_first)] }
def FilesTellSaid : Prop := filesTellRow.holds Tryd.pinned (OpenSpec.ofChange filesTellSpec)

/-- ITS FALSE NEIGHBOUR: 'it returns false'. Refute it at one input. -/
def filesTellWrong : ChangeSpec := { name := "filesTell", fn := fun _ => fun
  | [d1, d2, d3] => { results := [.lit (.bool false)], args := [d1, d2, d3] }
  | _ => none }
def FilesTellWrongFalsely : Prop := filesTellRow.holds Tryd.pinned (OpenSpec.ofChange filesTellWrong)

/-- 'tipstafflaw8.FilesClean': WHATEVER THE INPUT: true; the input reads as it did. -/
def filesCleanSpec : ChangeSpec := { name := "filesClean", fn := fun _ => fun
  | [d1, d2] => { results := [.lit (.bool true)], args := [d1, d2] }
  | _ => none }
def filesCleanRow : OpenClaim := { program := "ytcmhpjnafkpofaadoor", sum := "87a30a611d694563237e9f621698f8ed80f1736ec102fb51729d8816d092cf58", func := "tipstaff/tipstafflaw8.FilesClean", spec := "filesClean", inPlace := ["internal/bytealg.CountString", "internal/bytealg.IndexByteString", "internal/bytealg.IndexString", "internal/abi.NoEscape", "internal/bytealg.MakeNoZero"], unfollowed := true, recurses := true, named := ["unicode/utf8.first", "unicode/utf8.acceptRanges", "internal/bytealg.MaxLen"], apart := false, laid := [("unicode/utf8.acceptRanges", laid_unicode_utf8_acceptRanges), ("unicode/utf8.first", laid_unicode_utf8_first)] }
def FilesCleanSaid : Prop := filesCleanRow.holds Tryd.pinned (OpenSpec.ofChange filesCleanSpec)

/-- ITS FALSE NEIGHBOUR: 'it returns false'. Refute it at one input. -/
def filesCleanWrong : ChangeSpec := { name := "filesClean", fn := fun _ => fun
  | [d1, d2] => { results := [.lit (.bool false)], args := [d1, d2] }
  | _ => none }
def FilesCleanWrongFalsely : Prop := filesCleanRow.holds Tryd.pinned (OpenSpec.ofChange filesCleanWrong)

/-- 'tipstafflaw10.WeaveTells': WHATEVER THE INPUT: true; the input reads as it did. -/
def weaveTellsSpec : ChangeSpec := { name := "weaveTells", fn := fun _ => fun
  | [d1, d2] => { results := [.lit (.bool true)], args := [d1, d2] }
  | _ => none }
def weaveTellsRow : OpenClaim := { program := "ytcmhpjnafkpofaadoor", sum := "87a30a611d694563237e9f621698f8ed80f1736ec102fb51729d8816d092cf58", func := "tipstaff/tipstafflaw10.WeaveTells", spec := "weaveTells", inPlace := ["internal/bytealg.CountString", "internal/bytealg.IndexByteString", "internal/bytealg.IndexString", "internal/abi.NoEscape", "internal/bytealg.MakeNoZero", "math/bits.Add64"], unfollowed := true, recurses := true, named := ["unicode/utf8.first", "unicode/utf8.acceptRanges", "internal/bytealg.MaxLen"], apart := false, laid := [("unicode/utf8.acceptRanges", laid_unicode_utf8_acceptRanges), ("unicode/utf8.first", laid_unicode_utf8_first)] }
def WeaveTellsSaid : Prop := weaveTellsRow.holds Tryd.pinned (OpenSpec.ofChange weaveTellsSpec)

/-- ITS FALSE NEIGHBOUR: 'it returns false'. Refute it at one input. -/
def weaveTellsWrong : ChangeSpec := { name := "weaveTells", fn := fun _ => fun
  | [d1, d2] => { results := [.lit (.bool false)], args := [d1, d2] }
  | _ => none }
def WeaveTellsWrongFalsely : Prop := weaveTellsRow.holds Tryd.pinned (OpenSpec.ofChange weaveTellsWrong)

/-- 'tipstafflaw10.WeaveInline': WHATEVER THE INPUT: true; the input reads as it did. -/
def weaveInlineSpec : ChangeSpec := { name := "weaveInline", fn := fun _ => fun
  | [d1, d2, d3] => { results := [.lit (.bool true)], args := [d1, d2, d3] }
  | _ => none }
def weaveInlineRow : OpenClaim := { program := "ytcmhpjnafkpofaadoor", sum := "87a30a611d694563237e9f621698f8ed80f1736ec102fb51729d8816d092cf58", func := "tipstaff/tipstafflaw10.WeaveInline", spec := "weaveInline", inPlace := ["internal/bytealg.CountString", "internal/bytealg.IndexByteString", "internal/bytealg.IndexString", "internal/abi.NoEscape", "internal/bytealg.MakeNoZero", "math/bits.Add64"], unfollowed := true, recurses := true, named := ["unicode/utf8.first", "unicode/utf8.acceptRanges", "internal/bytealg.MaxLen"], apart := false, laid := [("unicode/utf8.acceptRanges", laid_unicode_utf8_acceptRanges), ("unicode/utf8.first", laid_unicode_utf8_first)] }
def WeaveInlineSaid : Prop := weaveInlineRow.holds Tryd.pinned (OpenSpec.ofChange weaveInlineSpec)

/-- ITS FALSE NEIGHBOUR: 'it returns false'. Refute it at one input. -/
def weaveInlineWrong : ChangeSpec := { name := "weaveInline", fn := fun _ => fun
  | [d1, d2, d3] => { results := [.lit (.bool false)], args := [d1, d2, d3] }
  | _ => none }
def WeaveInlineWrongFalsely : Prop := weaveInlineRow.holds Tryd.pinned (OpenSpec.ofChange weaveInlineWrong)

/-- 'tipstafflaw10.WeaveDeep': WHATEVER THE INPUT: true; the input reads as it did. -/
def weaveDeepSpec : ChangeSpec := { name := "weaveDeep", fn := fun _ => fun
  | [d1, d2] => { results := [.lit (.bool true)], args := [d1, d2] }
  | _ => none }
def weaveDeepRow : OpenClaim := { program := "ytcmhpjnafkpofaadoor", sum := "87a30a611d694563237e9f621698f8ed80f1736ec102fb51729d8816d092cf58", func := "tipstaff/tipstafflaw10.WeaveDeep", spec := "weaveDeep", inPlace := ["internal/bytealg.CountString", "internal/bytealg.IndexByteString", "internal/bytealg.IndexString", "internal/abi.NoEscape", "internal/bytealg.MakeNoZero", "math/bits.Add64"], unfollowed := true, recurses := true, named := ["unicode/utf8.first", "unicode/utf8.acceptRanges", "internal/bytealg.MaxLen"], apart := false, laid := [("unicode/utf8.acceptRanges", laid_unicode_utf8_acceptRanges), ("unicode/utf8.first", laid_unicode_utf8_first)] }
def WeaveDeepSaid : Prop := weaveDeepRow.holds Tryd.pinned (OpenSpec.ofChange weaveDeepSpec)

/-- ITS FALSE NEIGHBOUR: 'it returns false'. Refute it at one input. -/
def weaveDeepWrong : ChangeSpec := { name := "weaveDeep", fn := fun _ => fun
  | [d1, d2] => { results := [.lit (.bool false)], args := [d1, d2] }
  | _ => none }
def WeaveDeepWrongFalsely : Prop := weaveDeepRow.holds Tryd.pinned (OpenSpec.ofChange weaveDeepWrong)

/-- 'tipstafflaw10.WeaveTwice': WHATEVER THE INPUT: true; the input reads as it did. -/
def weaveTwiceSpec : ChangeSpec := { name := "weaveTwice", fn := fun _ => fun
  | [d1, d2] => { results := [.lit (.bool true)], args := [d1, d2] }
  | _ => none }
def weaveTwiceRow : OpenClaim := { program := "ytcmhpjnafkpofaadoor", sum := "87a30a611d694563237e9f621698f8ed80f1736ec102fb51729d8816d092cf58", func := "tipstaff/tipstafflaw10.WeaveTwice", spec := "weaveTwice", inPlace := ["internal/bytealg.CountString", "internal/bytealg.IndexByteString", "internal/bytealg.IndexString", "internal/abi.NoEscape", "internal/bytealg.MakeNoZero", "math/bits.Add64"], unfollowed := true, recurses := true, named := ["unicode/utf8.first", "unicode/utf8.acceptRanges", "internal/bytealg.MaxLen"], apart := false, laid := [("unicode/utf8.acceptRanges", laid_unicode_utf8_acceptRanges), ("unicode/utf8.first", laid_unicode_utf8_first)] }
def WeaveTwiceSaid : Prop := weaveTwiceRow.holds Tryd.pinned (OpenSpec.ofChange weaveTwiceSpec)

/-- ITS FALSE NEIGHBOUR: 'it returns false'. Refute it at one input. -/
def weaveTwiceWrong : ChangeSpec := { name := "weaveTwice", fn := fun _ => fun
  | [d1, d2] => { results := [.lit (.bool false)], args := [d1, d2] }
  | _ => none }
def WeaveTwiceWrongFalsely : Prop := weaveTwiceRow.holds Tryd.pinned (OpenSpec.ofChange weaveTwiceWrong)

/- THE SECOND FORM. 'bulk': how many values and letters a reading holds, each counted each time it is reached (what is shared counts as often as it is met; a slice's spare places count too). A statement '..UptoSaid' is the law's where the arguments, and the package variables that the reading takes, are together of bulk at most 1048576: NARROWER than '..Said'. Prove '..Said' where nothing that the law and all that it calls make is longer than what came in: it says more and counts as full. Else prove '..UptoSaid'. A law counts once. -/
mutual
def uptoBulk {H : Type} : DataW H → Nat
  | .lit (.string bytes) => bytes.length + 1
  | .lit _ => 1
  | .nil => 1
  | .ptr d => uptoBulk d + 1
  | .slice elems spare => uptoBulkAll elems + uptoBulkAll spare + 1
  | .agg parts => uptoBulkAll parts + 1
  | .iface _ d => uptoBulk d + 1
  | .map entries => uptoBulkEntries entries + 1
  | .held _ => 1
def uptoBulkAll {H : Type} : List (DataW H) → Nat
  | [] => 0
  | d :: r => uptoBulk d + uptoBulkAll r
def uptoBulkEntries {H : Type} : List (Lit × DataW H) → Nat
  | [] => 0
  | x :: r => uptoBulkEntry x + uptoBulkEntries r
def uptoBulkEntry {H : Type} : Lit × DataW H → Nat
  | (.string bytes, d) => bytes.length + uptoBulk d + 1
  | (_, d) => uptoBulk d + 1
 end
def uptoSmall : (H : Type) → List (DataW H) → Bool := fun _ ds => decide (uptoBulkAll ds ≤ 1048576)
def OpenSpec.upto (s : _root_.Go.ChangeSpec) : _root_.Go.OpenSpec := { _root_.Go.OpenSpec.ofChange s with cond := some uptoSmall }

/-- 'tipstafflaw8.FilesTell', WHERE WHAT IT READS IS OF BULK AT MOST 1048576: true; the input reads as it did. -/
def filesTellUptoRow : OpenClaim := { program := "ytcmhpjnafkpofaadoor", sum := "87a30a611d694563237e9f621698f8ed80f1736ec102fb51729d8816d092cf58", func := "tipstaff/tipstafflaw8.FilesTell", spec := "filesTell", inPlace := ["internal/bytealg.CountString", "internal/bytealg.IndexByteString", "internal/bytealg.IndexString", "internal/abi.NoEscape", "internal/bytealg.MakeNoZero"], unfollowed := true, recurses := true, named := ["unicode/utf8.first", "unicode/utf8.acceptRanges", "internal/bytealg.MaxLen"], apart := false, laid := [("unicode/utf8.acceptRanges", laid_unicode_utf8_acceptRanges), ("unicode/utf8.first", laid_unicode_utf8_first)], narrowed := true }
def FilesTellUptoSaid : Prop := filesTellUptoRow.holds Tryd.pinned (OpenSpec.upto filesTellSpec)

/-- 'tipstafflaw8.FilesClean', WHERE WHAT IT READS IS OF BULK AT MOST 1048576: true; the input reads as it did. -/
def filesCleanUptoRow : OpenClaim := { program := "ytcmhpjnafkpofaadoor", sum := "87a30a611d694563237e9f621698f8ed80f1736ec102fb51729d8816d092cf58", func := "tipstaff/tipstafflaw8.FilesClean", spec := "filesClean", inPlace := ["internal/bytealg.CountString", "internal/bytealg.IndexByteString", "internal/bytealg.IndexString", "internal/abi.NoEscape", "internal/bytealg.MakeNoZero"], unfollowed := true, recurses := true, named := ["unicode/utf8.first", "unicode/utf8.acceptRanges", "internal/bytealg.MaxLen"], apart := false, laid := [("unicode/utf8.acceptRanges", laid_unicode_utf8_acceptRanges), ("unicode/utf8.first", laid_unicode_utf8_first)], narrowed := true }
def FilesCleanUptoSaid : Prop := filesCleanUptoRow.holds Tryd.pinned (OpenSpec.upto filesCleanSpec)

/-- 'tipstafflaw10.WeaveTells', WHERE WHAT IT READS IS OF BULK AT MOST 1048576: true; the input reads as it did. -/
def weaveTellsUptoRow : OpenClaim := { program := "ytcmhpjnafkpofaadoor", sum := "87a30a611d694563237e9f621698f8ed80f1736ec102fb51729d8816d092cf58", func := "tipstaff/tipstafflaw10.WeaveTells", spec := "weaveTells", inPlace := ["internal/bytealg.CountString", "internal/bytealg.IndexByteString", "internal/bytealg.IndexString", "internal/abi.NoEscape", "internal/bytealg.MakeNoZero", "math/bits.Add64"], unfollowed := true, recurses := true, named := ["unicode/utf8.first", "unicode/utf8.acceptRanges", "internal/bytealg.MaxLen"], apart := false, laid := [("unicode/utf8.acceptRanges", laid_unicode_utf8_acceptRanges), ("unicode/utf8.first", laid_unicode_utf8_first)], narrowed := true }
def WeaveTellsUptoSaid : Prop := weaveTellsUptoRow.holds Tryd.pinned (OpenSpec.upto weaveTellsSpec)

/-- 'tipstafflaw10.WeaveInline', WHERE WHAT IT READS IS OF BULK AT MOST 1048576: true; the input reads as it did. -/
def weaveInlineUptoRow : OpenClaim := { program := "ytcmhpjnafkpofaadoor", sum := "87a30a611d694563237e9f621698f8ed80f1736ec102fb51729d8816d092cf58", func := "tipstaff/tipstafflaw10.WeaveInline", spec := "weaveInline", inPlace := ["internal/bytealg.CountString", "internal/bytealg.IndexByteString", "internal/bytealg.IndexString", "internal/abi.NoEscape", "internal/bytealg.MakeNoZero", "math/bits.Add64"], unfollowed := true, recurses := true, named := ["unicode/utf8.first", "unicode/utf8.acceptRanges", "internal/bytealg.MaxLen"], apart := false, laid := [("unicode/utf8.acceptRanges", laid_unicode_utf8_acceptRanges), ("unicode/utf8.first", laid_unicode_utf8_first)], narrowed := true }
def WeaveInlineUptoSaid : Prop := weaveInlineUptoRow.holds Tryd.pinned (OpenSpec.upto weaveInlineSpec)

/-- 'tipstafflaw10.WeaveDeep', WHERE WHAT IT READS IS OF BULK AT MOST 1048576: true; the input reads as it did. -/
def weaveDeepUptoRow : OpenClaim := { program := "ytcmhpjnafkpofaadoor", sum := "87a30a611d694563237e9f621698f8ed80f1736ec102fb51729d8816d092cf58", func := "tipstaff/tipstafflaw10.WeaveDeep", spec := "weaveDeep", inPlace := ["internal/bytealg.CountString", "internal/bytealg.IndexByteString", "internal/bytealg.IndexString", "internal/abi.NoEscape", "internal/bytealg.MakeNoZero", "math/bits.Add64"], unfollowed := true, recurses := true, named := ["unicode/utf8.first", "unicode/utf8.acceptRanges", "internal/bytealg.MaxLen"], apart := false, laid := [("unicode/utf8.acceptRanges", laid_unicode_utf8_acceptRanges), ("unicode/utf8.first", laid_unicode_utf8_first)], narrowed := true }
def WeaveDeepUptoSaid : Prop := weaveDeepUptoRow.holds Tryd.pinned (OpenSpec.upto weaveDeepSpec)

/-- 'tipstafflaw10.WeaveTwice', WHERE WHAT IT READS IS OF BULK AT MOST 1048576: true; the input reads as it did. -/
def weaveTwiceUptoRow : OpenClaim := { program := "ytcmhpjnafkpofaadoor", sum := "87a30a611d694563237e9f621698f8ed80f1736ec102fb51729d8816d092cf58", func := "tipstaff/tipstafflaw10.WeaveTwice", spec := "weaveTwice", inPlace := ["internal/bytealg.CountString", "internal/bytealg.IndexByteString", "internal/bytealg.IndexString", "internal/abi.NoEscape", "internal/bytealg.MakeNoZero", "math/bits.Add64"], unfollowed := true, recurses := true, named := ["unicode/utf8.first", "unicode/utf8.acceptRanges", "internal/bytealg.MaxLen"], apart := false, laid := [("unicode/utf8.acceptRanges", laid_unicode_utf8_acceptRanges), ("unicode/utf8.first", laid_unicode_utf8_first)], narrowed := true }
def WeaveTwiceUptoSaid : Prop := weaveTwiceUptoRow.holds Tryd.pinned (OpenSpec.upto weaveTwiceSpec)

end Rows
end Go.Proofs.YtcmhpjnafkpofaaDoor
