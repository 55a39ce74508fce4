/- The library's search in a text. -/
import Derived.Test.YtkjlmgfmedehiaaShelf
import Derived.Test.YtkjlmgfmedehiaaBase
set_option linter.unusedVariables false
set_option linter.unusedSimpArgs false
namespace Go.Proofs.Ytkjlmgfmedehiaa
open Go Go.Am Go.Proofs
theorem indexR [GVals] (s t : ByteArray) (hs : s.size < 4294967281) : Comp Try.prog 35 [str s, str t] (int .i64 (Lib.index s.data.toList t.data.toList)) :=
  comp_rs (xs := [.string s, .string t]) ⟨_, Try.func35, by decide, rfl⟩ (fun κ w hR => Try.strings_Index s t GVals.m0 w hs (glob_int hR rfl)) rfl
end Go.Proofs.Ytkjlmgfmedehiaa
