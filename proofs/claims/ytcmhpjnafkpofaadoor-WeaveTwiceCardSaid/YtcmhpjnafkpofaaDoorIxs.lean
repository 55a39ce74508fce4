/- The library's search in a text. -/
import Derived.Test.YtcmhpjnafkpofaaDoorShelf
import Derived.Test.YtcmhpjnafkpofaaDoorBase
set_option linter.unusedVariables false
set_option linter.unusedSimpArgs false
namespace Go.Proofs.YtcmhpjnafkpofaaDoor
open Go Go.Am Go.Proofs
theorem indexR [GVals] (s t : ByteArray) (hs : s.size < 4294967281) : Comp Tryd.prog 54 [str s, str t] (int .i64 (Lib.index s.data.toList t.data.toList)) :=
  comp_rs (xs := [.string s, .string t]) ⟨_, Tryd.func54, by decide, rfl⟩ (fun κ w hR => Tryd.strings_Index s t GVals.m0 w hs (glob_int hR rfl)) rfl
end Go.Proofs.YtcmhpjnafkpofaaDoor
